/- Texts joined. -/
import Derived.Shelf.SlSortCmp.NoneTotal
import Derived.Ground.SlsfProg
import Derived.Test.YtkabjcanamcbeaaGreatDoorProg
import Derived.Shelf.SlIterI.Nil
import Derived.Ground.GgzProg
import Derived.Test.YtkabjcanamcbeaaGreatDoorY6
set_option linter.unusedVariables false
set_option linter.unusedSimpArgs false
namespace Go.Ar
open Go.Vc (bV dF cT)
open Go.Bu (Zf)
structure KS (s s':Sp):Prop where
 l:s'.st.length=s.st.length
 k:∀p,gf s.st p≠0->gf s'.st p≠0/\∀w,w/32=p->s'.wd w=s.wd w
theorem KS.refl (s:Sp):KS s s:=⟨rfl,λp a=>⟨a,λ_ _=>rfl⟩⟩
theorem KS.trans {a b c:Sp}(h:KS a b)(k:KS b c):KS a c:=⟨k.l.trans h.l,λp d=>⟨(k.k p (h.k p d).1).1,λw e=>((k.k p (h.k p d).1).2 w e).trans ((h.k p d).2 w e)⟩⟩
variable {s s' sp sp' s0 s0':Sp}{A B:AR}{k:Nat}
theorem gJ.mz (h:gJ s s'):s'.st.map (λx=>decide (x=0))=s.st.map λx=>decide (x=0):=by
 refine zz λi=>?_;rw[ze,ze];have a:=h.z i;unfold gf at a;rw[zL,zL]at a;by_cases hi:i<s.st.length
 ·have b:i<s'.st.length:=by rw[h.l];exact hi
  rw[cM hi,cM b]at a ⊢;simp only[pN]at a;simp[a]
 ·have d:=h.l;rw[zY O,zY O]
theorem EN {l l':List Nat}(h:l'.map (λx=>decide (x=0))=l.map λx=>decide (x=0))(a m:Nat)(f:Bool->Bool):((l'.drop a).take m).any (λx=>f (decide (x=0)))=((l.drop a).take m).any λx=>f (decide (x=0)):=by
 have e:∀l:List Nat,((l.drop a).take m).any (λx=>f (decide (x=0)))=(((l.map λx=>decide (x=0)).drop a).take m).any f:=λl=>by
  rw[←List.map_drop,←List.map_take,List.any_map];rfl
 rw[e,e,h]
theorem gJ.fC (h:gJ s s')(a m:Int):fC s' a m=fC s a m:=by
 unfold Go.Ar.fC;rw[h.l];have:=EN h.mz a.toNat m.toNat (λb=>!b);have e:∀l:List Nat,l.any (λx=>x != 0)=l.any λx=>!decide (x=0):=λl=>by
  refine congrArg l.any (funext λx=>?_);cases x<;>rfl
 rw[e,e,this]
theorem gJ.fD (h:gJ s s')(a m:Int):fD s' a m=fD s a m:=by
 unfold Go.Ar.fD yT;rw[h.l];have:=EN h.mz a.toNat m.toNat (λb=>b);have e:∀l:List Nat,l.contains 0=l.any λx=>decide (x=0):=λl=>by
  rw[nL];simp only[tT,j9,zT,exists_eq_right]
 rw[e,e,this]
theorem gJ.set (h:gJ s s'){a m v:Nat}(hl:a+m<=s.st.length):gJ (s.set a m v) (s'.set a m v):=by
 refine⟨by simp[Sp.set,Qj,h.l],λp=>?_,?_⟩
 ·show gf (fY s'.st a (a+m) v) p=0↔gf (fY s.st a (a+m) v) p=0;rw[Hs (by rw[h.l];exact hl),Hs hl];split
  ·exact Iff.rfl
  ·exact h.z p
 ·show(λw=>if a*32<=w/\w<(a+m)*32 then 0 else s'.wd w)=_
  rw[h.w];rfl
theorem Fl {n:Nat}{a m:Int}(h:Zf n a m=true):a.toNat+m.toNat<=n:=by
 by_cases h0:0<=a/\0<=m
 ·obtain⟨a,rfl⟩:=zk h0.1;obtain⟨m,rfl⟩:=zk h0.2;rw[dC,dC];exact(Vl.1 h).2
 ·exfalso;unfold Zf at h;simp at h;omega
theorem gJ.gC (h:gJ s s')(a m:Int):gJ (gC s a m) (gC s' a m):=by
 unfold Go.Ar.gC;rw[h.fC];split
 ·rename_i h0;refine h.set ?_;unfold Go.Ar.fC at h0;split at h0
  ·rename_i hr;exact Fl hr
  ·simp at h0
 ·exact h
theorem gJ.dX (h:gJ s s')(a m:Int)(v:Nat):gJ (dX s a m v) (dX s' a m v):=by
 unfold Go.Ar.dX;rw[h.fD];split
 ·rename_i h0;refine h.set ?_;unfold Go.Ar.fD at h0;split at h0
  ·rename_i hr;exact Fl hr
  ·simp at h0
 ·exact h
theorem Jv (s:Sp)(a m:Nat):KS s (gC s (a:Int) (m:Int)):=by
 by_cases h:fC s (a:Int) (m:Int)=0
 ·have g:=CY h;obtain⟨j,i,r,_⟩:=Ly h;refine⟨j,λp d=>?_⟩;have b:¬(a<=p/\p<a+m):=λe=>d (g.2.2 p e.1 e.2);exact⟨by rw[i,zA b];exact d,λw u=>r w O⟩
 ·unfold gC;rw[zA h];exact KS.refl s
theorem gJ.cY (h:gJ s s')(size:Nat):cY s' size=cY s size:=by
 unfold Go.Ar.cY;rw[h.l]
 congr 1
 funext x
 rw[h.fC]
theorem gJ.cZ (h:gJ s s')(A:AR)(m a no:Nat):(cZ A s' m a no).1=(cZ A s m a no).1/\(cZ A s' m a no).2.1=(cZ A s m a no).2.1/\gJ (cZ A s m a no).2.2 (cZ A s' m a no).2.2/\KS s' (cZ A s' m a no).2.2:=by
 unfold Go.Ar.cZ;split
 ·exact⟨rfl,rfl,h,KS.refl _⟩
 ·unfold UT;rw[h.cY];cases hg:Go.Ar.cY s (Q4 (max m a))with
  | none=>exact⟨rfl,rfl,h,KS.refl _⟩
  | some x=>
   simp only;split
   ·exact⟨rfl,rfl,h.gC _ _,Jv _ _ _⟩
   ·exact⟨rfl,rfl,h.gC _ _,Jv _ _ _⟩
theorem gJ.cP (h:gJ s s')(A:AR)(k:Int):(cP A s' k).1=(cP A s k).1/\KQ A s' k=KQ A s k/\gJ (cP A s k).2 (cP A s' k).2/\KS s' (cP A s' k).2:=by
 unfold Go.Ar.cP KQ;split
 ·split
  ·rename_i c ss _ _;obtain⟨d,b,e,a⟩:=h.cZ A c.aF 1 (k.toNat+1);cases e1:Go.Ar.cZ A s c.aF 1 (k.toNat+1)with
   | mk o1 r1=>cases e2:Go.Ar.cZ A s' c.aF 1 (k.toNat+1)with
    | mk o2 r2=>
     obtain⟨i,j⟩:=r1;obtain⟨g,m⟩:=r2;rw[e1,e2]at d b e;rw[e2]at a;simp only at d b e a;subst d;subst b;cases o2<;>exact⟨rfl,rfl,e,a⟩
  ·exact⟨rfl,rfl,h,KS.refl _⟩
 ·exact⟨rfl,rfl,h,KS.refl _⟩
theorem gJ.cD (h:gJ s s')(A:AR)(m a:Int):(cD A s' m a).1=(cD A s m a).1/\Qz A s' m a=Qz A s m a/\Z5 A s' m a=Z5 A s m a/\gJ (cD A s m a).2 (cD A s' m a).2/\KS s' (cD A s' m a).2:=by
 unfold Go.Ar.cD Qz Z5;split
 ·obtain⟨e,d,g,b⟩:=h.cZ A m.toNat a.toNat 41;cases e1:Go.Ar.cZ A s m.toNat a.toNat 41 with
  | mk o1 r1=>cases e2:Go.Ar.cZ A s' m.toNat a.toNat 41 with
   | mk o2 r2=>
    obtain⟨j,p⟩:=r1;obtain⟨i,r⟩:=r2;rw[e1,e2]at e d g;rw[e2]at b;simp only at e d g b;subst e;subst d;cases o2<;>exact⟨rfl,rfl,rfl,g,b⟩
 ·exact⟨rfl,rfl,rfl,h,KS.refl _⟩
theorem Ju (s:Sp)(a m:Int)(v:Nat):(dX s a m v).st.length=s.st.length:=by
 unfold Go.Ar.dX;split
 ·simp[Sp.set,Qj]
 ·rfl
theorem gJ.wE:∀(rs:List (Nat×Nat)) {s s':Sp} (A:AR),gJ s s'->(rs.foldl fE (A,s')).1=(rs.foldl fE (A,s)).1/\gJ (rs.foldl fE (A,s)).2 (rs.foldl fE (A,s')).2/\(rs.foldl fE (A,s')).2.st.length=s'.st.length
 | [],s,s',A,h=>⟨rfl,h,rfl⟩
 | r::rs,s,s',A,h=>by
  rw[lg,lg];obtain⟨h1,h2,h3⟩:=gJ.wE rs (fE (A,s) r).1 (h.dX r.1 r.2 1);exact⟨h1,h2,h3.trans (Ju _ _ _ _)⟩
theorem gJ.dT (h:gJ s s')(A:AR)(want:Int):(dT A s' want).1=(dT A s want).1/\gJ (dT A s want).2 (dT A s' want).2/\(dT A s' want).2.st.length=s'.st.length:=by
 unfold Go.Ar.dT;split
 ·exact⟨rfl,h,rfl⟩
 ·exact gJ.wE _ _ h
theorem gJ.rZ:∀(rs:List Nat) {s s':Sp} (A:AR),gJ s s'->(rs.foldl Vn (A,s')).1=(rs.foldl Vn (A,s)).1/\gJ (rs.foldl Vn (A,s)).2 (rs.foldl Vn (A,s')).2/\(rs.foldl Vn (A,s')).2.st.length=s'.st.length
 | [],s,s',A,h=>⟨rfl,h,rfl⟩
 | r::rs,s,s',A,h=>by
  rw[lg,lg];obtain⟨h1,h2,h3⟩:=gJ.rZ rs (Vn (A,s) r).1 (h.dX ((r*16:Nat):Int) 16 0);exact⟨h1,h2,h3.trans (Ju _ _ _ _)⟩
theorem gJ.eJ (h:gJ s s')(A:AR):(eJ A s').1=(eJ A s).1/\gJ (eJ A s).2 (eJ A s').2/\(eJ A s').2.st.length=s'.st.length:=gJ.rZ _ _ h
variable {W:Wd}
theorem PY (h:WI W){cl:Int}{l:List Int}(ho:jT W.held k cl l=true)(c x:Int):Um (W.held.filter λp=>!eH k cl l p) c x↔Um W.held c x/\¬(c=cl/\x∈l):=by
 constructor
 ·rintro⟨p,hp,h1,h2,h3⟩;obtain⟨a,b⟩:=zH.1 hp;refine⟨⟨p,a,h1,h2,h3⟩,?_⟩;rintro⟨rfl,d⟩;obtain⟨q,g,e⟩:=(KC.1 ho).1 x d;obtain⟨i,s,u,r⟩:=KB.1 e;obtain rfl:=h.same (p:=p) (q:=q) a g O;have:eH k c l p=true:=Z3.2 ⟨i,h2,by rw[h3];exact d⟩;rw[this]at b;cases b
 ·rintro⟨⟨p,hp,h1,h2,h3⟩,b⟩;refine⟨p,zH.2 ⟨hp,?_⟩,h1,h2,h3⟩;have:eH k cl l p=false:=mL.2 λd=>by
   obtain⟨_,j,m⟩:=Z3.1 d;exact b ⟨h2.symm.trans j,by rw[←h3];exact m⟩
  rw[this];rfl
theorem NF {held:List Pc}{cl:Int}{l:List Int}(ho:jT held k cl l=true):∀x∈l,Um held cl x:=λx g=>by
 obtain⟨q,b,a⟩:=(KC.1 ho).1 x g;obtain⟨j,e,i,d⟩:=KB.1 a;exact⟨q,b,d,e,i⟩
theorem Ν (h:WI W){cl:Int}{l:List Int}(ho:jT W.held k cl l=true)(c x:Int):Um (H4 W.held k cl l true) c x↔Um W.held c x/\¬(c=cl/\x∈l):=by
 constructor
 ·rintro⟨p,hp,h1,h2,h3⟩;obtain⟨q,b,rfl⟩:=QJ.1 hp;by_cases hof:eH k cl l q=true
  ·rw[zB hof]at h1;cases h1
  ·rw[zA hof]at h1 h2 h3;refine⟨⟨q,b,h1,h2,h3⟩,?_⟩;rintro⟨rfl,hx⟩;obtain⟨r,d,a⟩:=(KC.1 ho).1 x hx;obtain⟨e,m,s,j⟩:=KB.1 a;obtain rfl:=h.same b d O;exact hof (Z3.2 ⟨e,h2,by rw[h3];exact hx⟩)
 ·rintro⟨⟨p,hp,h1,h2,h3⟩,hn⟩;refine⟨p,QJ.2 ⟨p,hp,?_⟩,h1,h2,h3⟩;rw[zA];intro hx;obtain⟨_,g,i⟩:=Z3.1 hx;exact hn ⟨h2.symm.trans g,by rw[←h3];exact i⟩
theorem NT {held:List Pc}{cl:Int}{l:List Int}:∀p∈H4 held k cl l true,p.eA=false->p∈held:=λp d a=>by
 obtain⟨q,b,rfl⟩:=QJ.1 d;by_cases hof:eH k cl l q=true
 ·rw[zB hof]at a;cases a
 ·rw[zA hof];exact b
theorem Τ (h:WI W)(hk:W.bT[k]?=some A){j:Nat}:(∀x∈YL A (j:Int),∀c,¬Um W.held c x)/\(YL A (j:Int)).Nodup/\(∀c x,Um (H4 W.held k j (YL A (j:Int)) false) c x↔Um W.held c x\/(c=j/\x∈YL A (j:Int))) ∧
 (∀p∈H4 W.held k j (YL A (j:Int)) false,p.eA=false->p∈W.held\/∀c,¬Um W.held c (p.addr:Int)):=by
 obtain⟨o,N,B,F,Q,P⟩:=Lr (h.ga k A hk) (j:Int);rw[dC]at B;have C:∀x∈YL A (j:Int),∃q∈W.held,q.k=k/\q.cls=j/\(q.addr:Int)=x/\q.eA=true:=λx d=>by
  have u:=B x d;obtain⟨t,ht,i⟩:=u;have w:j<A.tb.length:=by rw[←(h.ga k A hk).lt];exact(cQ.1 ht).1
  obtain⟨c,E,M,z,D⟩:=(h.ga k A hk).cl w;have s:eZ A j x:=(KR z).2 ((h.ga k A hk).lG j c E t z ht x i);obtain⟨q,a,r,m,b⟩:=h.ht k A hk j x s;obtain⟨_,_,_,_,H⟩:=h.cls a m (by rw[r];exact hk);exact⟨q,a,r,m,b,H.2 (by rw[b];exact⟨t,ht,i⟩)⟩
 have e:∀x∈YL A (j:Int),∀c,¬Um W.held c x:=λx d c G=>by
  obtain⟨q,a,_,_,b,y⟩:=C x d;have:=(h.um a G b).1;rw[y]at this;cases this
 refine⟨e,F,λc x=>⟨?_,?_⟩,λp g L=>?_⟩
 ·rintro⟨p,g,h1,h2,h3⟩;obtain⟨q,a,rfl⟩:=QJ.1 g;by_cases hof:eH k (j:Int) (YL A (j:Int)) q=true
  ·rw[zB hof]at h2 h3;obtain⟨_,J,K⟩:=Z3.1 hof;exact .inr ⟨h2.symm.trans J,by rw[←h3];exact K⟩
  ·rw[zA hof]at h1 h2 h3;exact .inl ⟨q,a,h1,h2,h3⟩
 ·rintro(⟨p,g,h1,h2,h3⟩|⟨rfl,d⟩)
  ·refine⟨p,QJ.2 ⟨p,g,?_⟩,h1,h2,h3⟩;split
   ·rw[←h1]
   ·rfl
  ·obtain⟨q,a,r,m,b,y⟩:=C x d;refine⟨{q with eA:=false},QJ.2 ⟨q,a,?_⟩,rfl,m,b⟩;rw[zB (Z3.2 ⟨r,m,by rw[b];exact d⟩)]
 ·obtain⟨q,a,rfl⟩:=QJ.1 g;by_cases hof:eH k (j:Int) (YL A (j:Int)) q=true
  ·rw[zB hof];exact .inr (e _ (Z3.1 hof).2.2)
  ·rw[zA hof];exact .inl a
theorem Cu {tb:List bW}{bT:List AR}{sp:Sp}{held new:List Pc}(h:WI ⟨tb,sp,bT,held++new⟩):∀p∈new,∀c,¬Um held c (p.addr:Int):=by
 rintro p d c ⟨q,b,_,_,g⟩;have e:=h.same (p:=p) (q:=q) (pL _ d) (nI _ b) O;have a:=h.hk;simp only[zr]at a;rw[og]at a;exact a.2.2 q.key (zC.2 ⟨q,b,rfl⟩) p.key (zC.2 ⟨p,d,rfl⟩) (by rw[e])
theorem Le {held new:List Pc}{cl:Int}{l:List Int}(h1:∀p∈new,p.eA=false/\p.cls=cl/\(p.addr:Int)∈l)(h2:∀x∈l,∃p∈new,(p.addr:Int)=x)(c x:Int):Um (held++new) c x↔Um held c x\/(c=cl/\x∈l):=by
 constructor
 ·rintro⟨p,b,a1,a2,a3⟩;rcases zR.1 b with b|b
  ·exact .inl ⟨p,b,a1,a2,a3⟩
  ·obtain⟨_,g,d⟩:=h1 p b;exact .inr ⟨a2.symm.trans g,by rw[←a3];exact d⟩
 ·rintro(⟨p,b,a⟩|⟨rfl,hx⟩)
  ·exact⟨p,nI _ b,a⟩
  ·obtain⟨p,b,e⟩:=h2 x hx;exact⟨p,pL _ b,(h1 p b).1,(h1 p b).2.1,e⟩
theorem E7 {tb:List bW}{bT:List AR}{sp:Sp}{held new:List Pc}(h:WI ⟨tb,sp,bT,held++new⟩):∀p∈held++new,p.eA=false->p∈held\/∀c,¬Um held c (p.addr:Int):=λp a _=>by
 rcases zR.1 a with a|a
 ·exact .inl a
 ·exact .inr (Cu h p a)
theorem Se {held:List Pc}(us:List AR)(c x:Int):Um (uP us held) c x↔Um held c x:=by
 unfold uP;constructor
 ·rintro⟨p,hp,h⟩;exact⟨p,(zH.1 hp).1,h⟩
 ·rintro⟨p,hp,h1,h⟩;exact⟨p,zH.2 ⟨hp,by rw[h1];rfl⟩,h1,h⟩
theorem KW {ss:List cH}:∀{i:Nat},Zv ss i=none->∀k,k<i->∀s,ss[k]?=some s->¬s.many<s.tk.length
 | 0,_,k,hk,_,_=>by omega
 | i+1,h,k,hk,s,hs=>by
  unfold Zv at h;by_cases hki:k=i
  ·subst hki;rw[hs]at h;simp only at h;intro hlt;rw[zB hlt]at h;split at h
   ·split at h
    ·split at h<;>cases h
    ·cases h
   ·cases h
  ·cases hi:ss[i]? with
   | none=>
    rw[hi]at h;exact KW h k O s hs
   | some x=>
    rw[hi]at h;simp only at h;split at h
    ·split at h
     ·split at h
      ·split at h<;>cases h
      ·cases h
     ·exact KW (by assumption) k O s hs
    ·exact KW h k O s hs
theorem SD (h:GA A)(hw:Ow A sp){j:Nat}(hE:KQ A sp (j:Int)=0){w:Nat}(h1:1<=w):Yt (cP A sp (j:Int)).1 (j:Int) (w:Int)≠[]:=by
 rcases Iq h hw (j:Int)with⟨_,hn⟩|⟨j',c,ss,x,A1,sp1,hj,hk,hk1,_,e,hst,r1,r2,r3,_,hd,hS⟩
 ·exact(hn hE).elim
 ·obtain rfl:j=j':=by omega
  have a:Cl (cP A sp (j:Int)).1 j c (iy c ss x):=by
   rw[e];have d:Cl (dV A1 x c.aF (j+1)) j c ss:=hk1;exact U5 d _
  have E:=hS.ga.cC j c _ a;have b:(⟨x,List.replicate c.n false⟩:cH)∈iy c ss x:=Vu.2 (.inl rfl);have m:(cP A sp (j:Int)).1.ck (j:Int)=true:=Hy.2 ⟨j,rfl,a.lt⟩;unfold Yt QF Vz;rw[m,zB rfl,zA (show ¬((w:Int)<0) by omega),zB rfl,dC,dC,a.1,a.2];simp only;obtain⟨w,rfl⟩:∃v,w=v+1:=⟨w-1,O⟩;cases ho:ji c (iy c ss x)with
  | some r=>
   obtain⟨y,D⟩:=r;rw[HT ho];simp
  | none=>
   exfalso;unfold ji m9 at ho;obtain⟨l,z⟩:=zN b;have u:=(cQ.1 z).1;have g:(⟨x,List.replicate c.n false⟩:cH).many<(⟨x,List.replicate c.n false⟩:cH).tk.length:=by
    have:=E.ok.ns;simp[cH.many,Ai];omega
   cases hb:Zv (iy c ss x) (iy c ss x).length with
   | none=>exact KW hb l u _ z g
   | some i=>
    rw[hb]at ho;obtain⟨_,s,C,p⟩:=QV hb;obtain⟨r,B,_⟩:=G4 p;simp only[C,B]at ho;cases ho
end Go.Ar
namespace Go.Ar
open Go.Vc (bV dF cT)
variable {H:Hw}{held:List Pc}{s0:Sp}{t k:Nat}{g:Th}{A:AR}{c:bW}
theorem Z4 {p:Ph}{H1:Hw}{g1:Th}{nx:Option Ph}{a e:Int}(ht:t<H.bQ.length)(hs:Wt H t p=({H1 with bQ:=H.bQ.set t g1},nx,a,e)):QS H t p = {H1 with bQ:=H.bQ.set t {g1 with ph:=nx}}:=by
 unfold QS;rw[hs];show Hw.dZ _ t _=_;rw[ZL (g:=g1) (by simp[ht])];simp only[od]
structure iP (H:Hw) (t:Nat) (p:Ph):Prop where
 ok:uK H t p
 hi:∃held s0,HI (QS H t p) held s0
 ks:KS H.sp (QS H t p).sp
theorem iP.mk' {p:Ph}(hg:H.bQ[t]?=some g)(hl:g.bP.length<=41)(h1:uJ H t p){H':Hw}{held':List Pc}{s0':Sp}(e:QS H t p=H')(h2:HI H' held' s0')(h3:KS H.sp H'.sp):iP H t p:=
 ⟨⟨h1,λb a=>by rw[hg]at a;cases a;omega⟩,⟨held',s0',by rw[e];exact h2⟩,by rw[e];exact h3⟩
def Rq (tb:List bW)(g:Th):Ph->Int->Int->Prop
 | .take k,cl,sz=>cl=k/\∃c,tb[k]?=some c/\sz=c.size
 | .cN k _,cl,sz=>cl=k/\∃c,tb[k]?=some c/\sz=c.size
 | .cO k _,cl,sz=>cl=k/\∃c,tb[k]?=some c/\sz=c.size
 | .grow k _,cl,sz=>cl=k/\∃c,tb[k]?=some c/\sz=c.size
 | .fill,cl,sz=>∃k xs r c,g.bP=(k,xs)::r/\cl=k/\tb[k]?=some c/\sz=c.size
 | .eV m,cl,sz=>cl = -1/\sz=((m*256:Nat):Int)
 | _,_,_=>False
def p8 (H:Hw)(t:Nat):Ph->Nat
 | .take _=>5
 | .cN _ _=>4
 | .cO k w=>if Yt (H.eM t) (k:Int) (w:Int)=[]then 3 else 1
 | .grow _ _=>2
 | _=>0
def sL (H:Hw)(t:Nat)(p:Ph)(cl sz:Int):Prop:=
 (∃p' g',(Wt H t p).2.1=some p'/\(QS H t p).live=H.live/\(QS H t p).bQ[t]?=some g'/\Rq H.tb g' p' cl sz/\p8 (QS H t p) t p'<p8 H t p) ∨
 ((Wt H t p).2.1=none/\(Wt H t p).2.2.2≠0/\(Wt H t p).2.2.1=0/\(QS H t p).live=H.live) ∨
 ((Wt H t p).2.1=none/\(Wt H t p).2.2.2=0/\bV H.live (Wt H t p).2.2.1=none/\(QS H t p).live=dF H.live (Wt H t p).2.2.1 ((Wt H t p).2.2.1,sz,cl,YJ (QS H t p).bT (Wt H t p).2.2.1))
theorem HI.mem (h:HI H held s0)(hg:H.bQ[t]?=some g):g∈H.bQ:=zE hg
theorem HI.ku (h:HI H held s0)(t:Nat):H.own t<H.bT.length:=vK _ (by have:=h.a1;omega)
theorem HI.eM (h:HI H held s0)(t:Nat):H.bT[H.own t]?=some (H.eM t):=by
 have a:=cM (h.ku t);rw[Dx a];exact a
theorem HI.mA (h:HI H held s0):H.tb.length<=40:=by
 have a:=h.eM 0;have:=(h.wi.ga _ _ a).tb;rw[h.wi.tb _ _ a]at this;exact this
theorem HI.cls (h:HI H held s0)(hk:k<H.tb.length):∃c,H.tb[k]?=some c/\c.ok:=⟨H.tb[k],cM hk,h.ok _ (zc hk)⟩
theorem sY.li {m:Nat}(h:sY m g)(hk:k<m):∃l,g.ls[k]?=some l/\g.li k=l/\fR l/\l.os.length<=128:=by
 have a:=cM (l:=g.ls) (i:=k) (by rw[h.ll];exact hk);have:=h.lo _ (zc (by rw[h.ll];exact hk));exact⟨_,a,yS a,this.1,this.2⟩
theorem sY.iI {m:Nat}(h:sY m g){l':Li}(h1:fR l')(h2:l'.os.length<=128):(g.ls.set k l').length=m/\∀l∈g.ls.set k l',fR l/\l.os.length<=128:=by
 refine⟨by rw[oP];exact h.ll,λl a=>?_⟩;rcases vR a with a|rfl
 ·exact h.lo l a
 ·exact⟨h1,h2⟩
theorem M8 {ls:List Li}{l':Li}{hs:List Bt}{ph:Option Ph}(hk:k<ls.length):(⟨ls.set k l',hs,ph⟩:Th).li k=l':=by
 unfold Th.li;rw[Ee l' k hk,zB rfl]
theorem HI.we (h:HI H held s0){y:Int}(hu:Um held (k:Int) y)(hc:H.tb[k]?=some c):Lv held (y,(y,(c.size:Int),(k:Int),YJ H.bT y)):=by
 obtain⟨p,d,i,g,rfl⟩:=hu;obtain⟨A,e,_⟩:=h.wi.hf p d;obtain⟨c',b,j,_⟩:=h.wi.cls d g e;rw[h.wi.tb _ _ e]at b;have a:H.tb[k]?=some c':=b;rw[hc]at a;cases a;exact⟨rfl,p,d,i,g,rfl,by rw[j],by rw[h.pW d]⟩
theorem Al {ls:List Li}{l:Li}(hl:ls[k]?=some l)(l':Li)(k' x:Int):mD (ls.set k l') k' x+(if(k:Int)=k' then l.os.count x else 0)=mD ls k' x+(if(k:Int)=k' then l'.os.count x else 0):=by
 have:=Te l' (cQ.1 hl).1 k' x;rw[zL,hl]at this;exact this
theorem P0 {ls:List Li}{l:Li}(hl:ls[k]?=some l)(x:Int):mD ls (k:Int) x=l.os.count x:=by
 rw[vT,zL,hl];rfl
theorem MB (h:HI H held s0)(hg:H.bQ[t]?=some g)(hph:g.ph=some (.take k)){cl sz:Int}(hr:Rq H.tb g (.take k) cl sz):iP H t (.take k)/\sL H t (.take k) cl sz:=by
 have F:=(cQ.1 hg).1;have b:=h.th g (h.mem hg);obtain⟨P,C⟩:g.bP=[]/\k<H.tb.length:=by have:=b.ph;unfold iB at this;rw[hph]at this;exact this
 obtain⟨rfl,c,m,rfl⟩:=hr;have B:=h.ok c (zE m);obtain⟨l,hl,i,M,R⟩:=b.li C;have d:=Ih B M;have j:=GP hg;cases hT:Kb c l with
 | mk o l'=>
  rw[hT]at d;cases o with
  | some y=>
   have r:Wt H t (.take k)=({{H with live:=dF H.live y (y,(c.size:Int),(k:Int),YJ H.bT y)}with bQ:=H.bQ.set t {g with ls:=g.ls.set k l'}},none,y,0):=by
    simp only[Wt,j,Ud m,i,hT,VI,ZL hg,Th.iI]
   have e:=Z4 F r;have A:1<=gW g (k:Int) y:=by
    have:=F0 hT y;rw[A3]at this;unfold gW;rw[P0 hl];omega
   have Q:=h.qP (h.mem hg) A;have G:=h.mJ (h.mem hg) A;have p:l'.os.length<=128:=by
    have:l'.os.length<=l.os.length:=by
     unfold Kb at hT;split at hT
     ·cases hT
     ·cases hT;simp
    omega
   obtain⟨ll,J⟩:=b.iI (k:=k) d p;have L:=h.kO hg (g':={g with ls:=g.ls.set k l',ph:=none}) (live':=dF H.live y (y,(c.size:Int),(k:Int),YJ H.bT y)) (λD x=>by
    rw[CS _ G];have E:=Al hl l' D x;have W:=F0 hT x;unfold gW;rw[hph];simp only[j4];by_cases hkk:(k:Int)=D
    ·simp only[hkk,zS]at E ⊢;omega
    ·simp only[hkk,zy]at E ⊢;omega)
    (Go.Vc.ib h.lk) (λS z=>by
     rcases(Du G).1 z with z|rfl
     ·exact .inl z
     ·exact .inr (h.we Q m))
    (λs a K=>by cases K) ⟨ll,J,b.hb,b.hl,by unfold iB;exact P⟩
   refine⟨iP.mk' hg b.hl ⟨C,λU N w=>?_⟩ e L (KS.refl _),.inr (.inr ?_)⟩
   ·rw[j,i,Ud m,hT]at w;cases w;exact(h.i63 Q).1
   ·rw[e,r];exact⟨rfl,rfl,G,rfl⟩
  | none=>
   have r:Wt H t (.take k)=({H with bQ:=H.bQ.set t {g with ls:=g.ls.set k l'}},some (.cN k (pv c l')),0,0):=by
    simp only[Wt,j,Ud m,i,hT,ZL hg,Th.iI]
   have e:=Z4 F r;obtain⟨o1,o2⟩:=Si hT;obtain⟨ll,J⟩:=b.iI (k:=k) d (by rw[o2];simp);have u:=d.oA;have V:1<=pv c l'/\pv c l'<=32:=by
    unfold bW.ok at B;unfold pv;simp only at u;omega
   have L:=h.kO hg (g':={g with ls:=g.ls.set k l',ph:=some (.cN k (pv c l'))}) (live':=H.live) (λD x=>by
    have E:=Al hl l' D x;rw[o1,o2]at E;unfold gW;rw[hph];simp only[j4];omega) h.lk (λS z=>.inl z) (λs a K=>by cases K) ⟨ll,J,b.hb,b.hl,by
     unfold iB;exact⟨P,C,by rw[M8 (by rw[b.ll];exact C)];exact o2,V⟩⟩
   refine⟨iP.mk' hg b.hl ⟨C,λU N w=>?_⟩ e L (KS.refl _),.inl ?_⟩
   ·rw[j,i,Ud m,hT]at w;cases w
   ·rw[e,r];exact⟨_,_,rfl,rfl,zM F,⟨rfl,c,m,rfl⟩,by simp[p8]⟩
theorem GN (h:GA A)(h0:Z6 A (k:Int)=0)(hc:A.tb[k]?=some c):∃x xs,YL A (k:Int)=x::xs/\xs.length+1=c.batch:=by
 have a:YL A (k:Int)=(match A.cE[k]? with
  | some t=>t.bs.getLast?.getD []
  | none=>[]):=by unfold YL;rw[zB h0,dC];rfl
 unfold Z6 at h0;rw[dC]at h0;split at h0
 ·split at h0
  ·rename_i t ht;split at h0
   ·cases h0
   ·rename_i hb;rw[ht]at a;simp only at a;have j:t.bs.getLast?=some (t.bs.getLast hb):=List.getLast?_eq_some_getLast hb;rw[j]at a;simp only[pN]at a;have:=h.oC k c t hc ht _ (List.getLast_mem hb);rw[←a]at this;have i:=h.cC;cases hx:YL A (k:Int)with
    | nil=>
     rw[hx]at this;have e:k<A.tb.length:=(cQ.1 hc).1;obtain⟨g,m,_,b,_⟩:=h.cl e;have d:g=c:=Option.some.inj (b.1.symm.trans hc);have:=(h.cC k g m b).ok;unfold bW.ok at this;simp at *;subst d;omega
    | cons x xs=>exact⟨x,xs,rfl,by rw[hx]at this;simpa using this⟩
  ·cases h0
 ·cases h0
theorem Pf (h:HI H held s0)(hg:H.bQ[t]?=some g){w:Nat}(hph:g.ph=some (.cN k w)){cl sz:Int}(hr:Rq H.tb g (.cN k w) cl sz):iP H t (.cN k w)/\sL H t (.cN k w) cl sz:=by
 have B:=(cQ.1 hg).1;have d:=h.th g (h.mem hg);obtain⟨E,D,r,X⟩:g.bP=[]/\k<H.tb.length/\(g.li k).os=[]/\1<=w/\w<=32:=by have:=d.ph;unfold iB at this;rw[hph]at this;exact this
 obtain⟨rfl,c,i,rfl⟩:=hr;have K:=h.ok c (zE i);have z:=K;unfold bW.ok at z;have C:=h.eM t;have ga:=h.wi.ga _ _ C;have u:(H.eM t).tb[k]?=some c:=by rw[h.wi.tb _ _ C];exact i
 have L:uJ H t (.cN k w):=⟨D,λA=>by
  obtain⟨x,m,e,_⟩:=GN ga A u;rw[e];simp⟩
 by_cases hcase:w=c.batch/\Z6 (H.eM t) (k:Int)=0
 ·obtain⟨rfl,A⟩:=hcase;obtain⟨x,m,M,R⟩:=GN ga A u;have p:Wt H t (.cN k c.batch)=({H.cB (H.own t) (ZR (H.eM t) (k:Int))with bQ:=H.bQ.set t {g with bP:=[(k,x::m)]}},some .fill,0,0):=by
   simp only[Wt,Ud i,zS,A,QP,M];rw[ZL (g:=g) (by exact hg),E];rfl
  have e:=Z4 (H1:=H.cB (H.own t) (ZR (H.eM t) (k:Int))) B p;obtain⟨S,W,N,Q⟩:=Τ h.wi C (j:=k);have wi:=h.wi.wg C (k:Int);have G:=h.fO hg (g':={g with bP:=[(k,x::m)],ph:=some .fill}) (live':=H.live) wi h.kZ rfl (by simp[Wd.put]) Q (λP y=>by
   rw[CX W (λy U=>S y U _) N,M];unfold gW;rw[hph,E];simp only[j4,Kz,VF];omega) h.lk (λV J=>.inl J) (λs a F=>by cases F) ⟨d.ll,d.lo,λb hb=>by
    simp only[zV]at hb;subst hb;exact⟨D,by simp,by simp;omega⟩,by simp,by
    unfold iB;exact⟨k,x,m,rfl,D,r,O⟩⟩
  refine⟨iP.mk' hg d.hl L e G (KS.refl _),.inl ?_⟩;rw[e,p];exact⟨_,_,rfl,rfl,zM B,⟨k,x::m,[],c,rfl,rfl,i,rfl⟩,by simp[p8]⟩
 ·have p:Wt H t (.cN k w)=({H with bQ:=H.bQ.set t g},some (.cO k w),0,0):=by
   have:H.bQ.set t g=H.bQ:=Ql hg;rw[this];simp only[Wt,Ud i];split
   ·split
    ·exact(hcase ⟨by assumption,by assumption⟩).elim
    ·rfl
   ·rfl
  have e:=Z4 B p;have G:=h.kO hg (g':={g with ph:=some (.cO k w)}) (live':=H.live) (λP x=>by
   unfold gW;rw[hph];simp only[j4]) h.lk (λV J=>.inl J) (λs a F=>by cases F) ⟨d.ll,d.lo,d.hb,d.hl,by
    unfold iB;exact⟨E,D,r,X⟩⟩
  refine⟨iP.mk' hg d.hl L e G (KS.refl _),.inl ?_⟩;rw[e,p];refine⟨_,_,rfl,rfl,zM B,⟨rfl,c,i,rfl⟩,?_⟩;simp only[p8];split<;>omega
theorem Nt (h:GA A)(j w:Nat):(Yt A (j:Int) (w:Int)).length<=w:=by
 unfold Yt;split
 ·rename_i h0;have a:A.ck (j:Int)=true:=by
   unfold QF at h0;split at h0
   ·assumption
   ·cases h0
  obtain⟨i,g,d⟩:=Hy.1 a;obtain⟨c,e,t,b,m⟩:=h.cl d;have:i=j:=by omega
  subst this;unfold Vz;rw[dC,dC,b.1,b.2];exact(Gb w (h.cC i c e b)).2.2.1
 ·simp
theorem T7 (H:Hw)(t:Nat)(B:AR)(h:H.own t<H.bT.length)(sp:Sp)(bQ:List Th):Hw.eM {H.cB (H.own t) B with sp:=sp,bQ:=bQ} t=B:=by
 refine Dx ?_;have:Hw.own {H.cB (H.own t) B with sp:=sp,bQ:=bQ} t=H.own t:=by unfold Hw.own Hw.cB;simp
 rw[this];simp[Hw.cB,h]
theorem Oj (h:HI H held s0)(hg:H.bQ[t]?=some g){w:Nat}(hph:g.ph=some (.cO k w)){cl sz:Int}(hr:Rq H.tb g (.cO k w) cl sz):iP H t (.cO k w)/\sL H t (.cO k w) cl sz:=by
 have C:=(cQ.1 hg).1;have d:=h.th g (h.mem hg);obtain⟨D,J,u,S⟩:g.bP=[]/\k<H.tb.length/\(g.li k).os=[]/\1<=w/\w<=32:=by have:=d.ph;unfold iB at this;rw[hph]at this;exact this
 obtain⟨rfl,c,K,rfl⟩:=hr;have L:=h.eM t;have ga:=h.wi.ga _ _ L;have wi:=h.wi.from L (k:Int) (w:Int);have i:=Nt ga k w;have A:=(Fs ga (k:Int) (w:Int)).2.2.1;cases hv:Yt (H.eM t) (k:Int) (w:Int)with
 | nil=>
  have r:Wt H t (.cO k w)=({H.cB (H.own t) (YO (H.eM t) (k:Int) (w:Int))with bQ:=H.bQ.set t g},some (.grow k w),0,0):=by
   have:H.bQ.set t g=H.bQ:=Ql hg;rw[this];simp only[Wt,hv,zS,Hw.cB]
  have e:=Z4 (H1:=H.cB (H.own t) (YO (H.eM t) (k:Int) (w:Int))) C r;rw[hv]at wi;simp only[oY,j8]at wi;have F:=h.fO hg (g':={g with ph:=some (.grow k w)}) (live':=H.live) wi h.kZ rfl (by simp[Wd.put]) (λp j _=>.inl j) (λM y=>by
   unfold gW;rw[hph];simp only[j4]) h.lk (λQ G=>.inl G) (λs a j=>by cases j) ⟨d.ll,d.lo,d.hb,d.hl,by
    unfold iB;exact⟨D,J,u,S⟩⟩
  refine⟨iP.mk' hg d.hl trivial e F (KS.refl _),.inl ?_⟩;rw[e,r];exact⟨_,_,rfl,rfl,zM C,⟨rfl,c,K,rfl⟩,by simp[p8,hv]⟩
 | cons v vs=>
  have r:Wt H t (.cO k w)=({H.cB (H.own t) (YO (H.eM t) (k:Int) (w:Int))with bQ:=H.bQ.set t {g with bP:=[(k,(v::vs).map λ(x:Nat)=>(x:Int))]}},some .fill,0,0):=by
   simp only[Wt,hv,QP];rw[zA aA,ZL (g:=g) (by exact hg),D];rfl
  have e:=Z4 (H1:=H.cB (H.own t) (YO (H.eM t) (k:Int) (w:Int))) C r;rw[hv]at wi i A;have m:((v::vs).map λ(x:Nat)=>(x:Int)).Nodup:=List.Pairwise.map (R:=(· ≠ ·)) _ (λa b E e=>E O) A;have app:=Le (held:=held) (new:=(v::vs).map λy=>(⟨H.own t,(k:Int),y,qd H.tb (k:Int),false⟩:Pc)) (cl:=(k:Int)) (l:=(v::vs).map λ(x:Nat)=>(x:Int)) (λp j=>by
   obtain⟨y,B,rfl⟩:=zC.1 j;exact⟨rfl,rfl,zC.2 ⟨y,B,rfl⟩⟩) λx P=>by
   obtain⟨y,B,rfl⟩:=zC.1 P;exact⟨_,zC.2 ⟨y,B,rfl⟩,rfl⟩
  have new:=Cu wi;have F:=h.fO hg (g':={g with bP:=[(k,(v::vs).map λ(x:Nat)=>(x:Int))],ph:=some .fill}) (live':=H.live) wi h.kZ rfl (by simp[Wd.put]) (E7 wi) (λM y=>by
   rw[CX m (λy B=>by
    obtain⟨z,N,rfl⟩:=zC.1 B;exact new ⟨H.own t,(k:Int),z,qd H.tb (k:Int),false⟩ (zC.2 ⟨z,N,rfl⟩) _) app]
   unfold gW;rw[hph,D];simp only[j4,Kz,VF];omega) h.lk (λQ G=>.inl G) (λs a j=>by cases j) ⟨d.ll,d.lo,λb hb=>by
    simp only[zV]at hb;subst hb;exact⟨J,by simp,by simp at i ⊢;omega⟩,by simp,by
    unfold iB;exact⟨k,(v:Int),vs.map λ(x:Nat)=>(x:Int),rfl,J,u,by simp at i ⊢;omega⟩⟩
  refine⟨iP.mk' hg d.hl trivial e F (KS.refl _),.inl ?_⟩;rw[e,r];refine⟨_,_,rfl,rfl,zM C,⟨k,_,[],c,rfl,rfl,K,rfl⟩,?_⟩;simp[p8,hv]
theorem Nb (h:HI H held s0)(hg:H.bQ[t]?=some g){w:Nat}(hph:g.ph=some (.grow k w)){cl sz:Int}(hr:Rq H.tb g (.grow k w) cl sz):iP H t (.grow k w)/\sL H t (.grow k w) cl sz:=by
 have u:=(cQ.1 hg).1;have b:=h.th g (h.mem hg);obtain⟨E,M,z,F⟩:g.bP=[]/\k<H.tb.length/\(g.li k).os=[]/\1<=w/\w<=32:=by have:=b.ph;unfold iB at this;rw[hph]at this;exact this
 obtain⟨rfl,c,K,rfl⟩:=hr;have B:=h.eM t;have ga:=h.wi.ga _ _ B;obtain⟨C,L,D,r⟩:=h.kZ.cP (H.eM t) (k:Int);have wi:=h.wi.grow B (k:Int);by_cases h0:KQ (H.eM t) H.sp (k:Int)=0
 ·have m:Wt H t (.grow k w)=({{H.cB (H.own t) (cP (H.eM t) H.sp (k:Int)).1 with sp:=(cP (H.eM t) H.sp (k:Int)).2}with bQ:=H.bQ.set t g},some (.cO k w),0,0):=by
   have:H.bQ.set t g=H.bQ:=Ql hg;rw[this];simp only[Wt,h0,zS,Hw.cB]
  have e:=Z4 (H1:={H.cB (H.own t) (cP (H.eM t) H.sp (k:Int)).1 with sp:=(cP (H.eM t) H.sp (k:Int)).2}) u m;have d:=SD ga (h.wi.ow _ _ B) (j:=k) (by rw[←L];exact h0) F.1;rw[show(Wd.mk H.tb s0 H.bT held).sp=s0 from rfl,←C]at d;rw[show(Wd.mk H.tb s0 H.bT held).sp=s0 from rfl,←C]at wi;have x:=h.fO hg (g':={g with ph:=some (.cO k w)}) (live':=H.live) wi D r.l (by simp[Wd.put]) (λp i _=>.inl i) (λJ y=>by
   unfold gW;rw[hph];simp only[j4]) h.lk (λG A=>.inl A) (λs a i=>by cases i) ⟨b.ll,b.lo,b.hb,b.hl,by
    unfold iB;exact⟨E,M,z,F⟩⟩
  refine⟨iP.mk' hg b.hl trivial e x r,.inl ?_⟩;rw[e,m];refine⟨_,_,rfl,rfl,zM u,⟨rfl,c,K,rfl⟩,?_⟩;have:=T7 H t (cP (H.eM t) H.sp (k:Int)).1 (h.ku t) (cP (H.eM t) H.sp (k:Int)).2 (H.bQ.set t {g with ph:=some (.cO k w)});simp only[p8];rw[this,zA d];omega
 ·have m:Wt H t (.grow k w)=({{H.cB (H.own t) (cP (H.eM t) H.sp (k:Int)).1 with sp:=(cP (H.eM t) H.sp (k:Int)).2}with bQ:=H.bQ.set t g},none,0,KQ (H.eM t) H.sp (k:Int)):=by
   have:H.bQ.set t g=H.bQ:=Ql hg;rw[this];simp only[Wt,h0,zy,Hw.cB]
  have e:=Z4 (H1:={H.cB (H.own t) (cP (H.eM t) H.sp (k:Int)).1 with sp:=(cP (H.eM t) H.sp (k:Int)).2}) u m;rw[show(Wd.mk H.tb s0 H.bT held).sp=s0 from rfl,←C]at wi;have x:=h.fO hg (g':={g with ph:=none}) (live':=H.live) wi D r.l (by simp[Wd.put]) (λp i _=>.inl i) (λJ y=>by
   unfold gW;rw[hph];simp only[j4]) h.lk (λG A=>.inl A) (λs a i=>by cases i) ⟨b.ll,b.lo,b.hb,b.hl,by
    unfold iB;exact E⟩
  refine⟨iP.mk' hg b.hl trivial e x r,.inr (.inl ?_)⟩;rw[e,m];exact⟨rfl,h0,rfl,rfl⟩
theorem SR (h:HI H held s0)(hg:H.bQ[t]?=some g)(hph:g.ph=some .fill){cl sz:Int}(hr:Rq H.tb g .fill cl sz):iP H t .fill/\sL H t .fill cl sz:=by
 have L:=(cQ.1 hg).1;have i:=h.th g (h.mem hg);obtain⟨k,x,xs,w,K,d,N⟩:∃k x xs,g.bP=[(k,x::xs)]/\k<H.tb.length/\(g.li k).os=[]/\xs.length<=128:=by have:=i.ph;unfold iB at this;rw[hph]at this;exact this
 obtain⟨k',X,r,c,z,rfl,G,rfl⟩:=hr;rw[w]at z;obtain⟨j, -⟩:=List.cons.inj z;obtain rfl:k=k':=congrArg Prod.fst j;obtain⟨l,hl,p,E,M⟩:=i.li K;have u:=GP hg;rw[p]at d;have m:(eL xs.reverse l).os=xs.reverse:=by unfold eL;rw[d,zA aE];simp
 have F:Wt H t .fill=({{H with live:=dF H.live x (x,(c.size:Int),(k:Int),YJ H.bT x)}with bQ:=H.bQ.set t {ls:=g.ls.set k (eL xs.reverse l),bP:=[],ph:=g.ph}},none,x,0):=by
  simp only[Wt,u,w,Ud G,VI,ZL hg,p]
 have e:=Z4 L F;have A:1<=gW g (k:Int) x:=by
  unfold gW;rw[w,Kz,zB rfl];have:1<=(x::xs).count x:=CL.2 aA;simp only;omega
 have J:=h.qP (h.mem hg) A;have B:=h.mJ (h.mem hg) A;obtain⟨U,P⟩:=i.iI (k:=k) (yV (xs:=xs.reverse) E) (by rw[m];simp;omega);have S:=h.kO hg (g':={ls:=g.ls.set k (eL xs.reverse l),bP:=[],ph:=none}) (live':=dF H.live x (x,(c.size:Int),(k:Int),YJ H.bT x)) (λk' y=>by
  rw[CS _ B];have C:=Al hl (eL xs.reverse l) k' y;rw[d,m,List.count_reverse,List.count_nil]at C;have V:(x::xs).count y=[x].count y+xs.count y:=vE (l₁:=[x]) (l₂:=xs);unfold gW;rw[hph,w];simp only[j4,Kz,VF];by_cases j:(k:Int)=k'
  ·simp only[j,zS]at C ⊢;omega
  ·simp only[j,zy]at C ⊢;omega)
  (Go.Vc.ib h.lk) (λW D=>by
   rcases(Du B).1 D with D|rfl
   ·exact .inl D
   ·exact .inr (h.we J G))
  (λs a R=>by cases R) ⟨U,P,λb Q=>by simp at Q,by simp,by unfold iB;rfl⟩
 refine⟨iP.mk' hg i.hl ⟨k,x,xs,[],by rw[u];exact w,K,(h.i63 J).1,by rw[u,p,d];simp;omega⟩ e S (KS.refl _),.inr (.inr ?_)⟩;rw[e,F];exact⟨rfl,rfl,B,rfl⟩
theorem Mz (h:HI H held s0)(hg:H.bQ[t]?=some g){m:Nat}(hph:g.ph=some (.eV m)){cl sz:Int}(hr:Rq H.tb g (.eV m) cl sz):iP H t (.eV m)/\sL H t (.eV m) cl sz:=by
 have K:=(cQ.1 hg).1;have b:=h.th g (h.mem hg);obtain⟨M,Q,Y⟩:g.bP=[]/\1<=m/\m<=64:=by have:=b.ph;unfold iB at this;rw[hph]at this;exact this
 obtain⟨rfl,rfl⟩:=hr;have P:=h.eM t;have ga:=h.wi.ga _ _ P;obtain⟨S,R,X,L,D⟩:=h.kZ.cD (H.eM t) (m:Int) 1;have wi:=h.wi.xz P (m:Int) 1;rw[show(Wd.mk H.tb s0 H.bT held).sp=s0 from rfl,←S,←R,←X]at wi;by_cases h0:Qz (H.eM t) H.sp (m:Int) 1=0
 ·rw[zB h0]at wi;have j:=Cu wi;have z:=Le (held:=held) (new:=[(⟨H.own t, -1,Z5 (H.eM t) H.sp (m:Int) 1*256,(m:Int).toNat*256,false⟩:Pc)]) (cl:=-1) (l:=[((Z5 (H.eM t) H.sp (m:Int) 1*256:Nat):Int)]) (λp d=>by
   simp only[zV]at d;subst d;exact⟨rfl,rfl,by simp⟩) λx B=>by
   simp only[zV]at B;subst B;exact⟨_,zV.2 rfl,rfl⟩
  have i:(⟨H.own t, -1,Z5 (H.eM t) H.sp (m:Int) 1*256,(m:Int).toNat*256,false⟩:Pc)∈held++[(⟨H.own t, -1,Z5 (H.eM t) H.sp (m:Int) 1*256,(m:Int).toNat*256,false⟩:Pc)]:=by simp
  have F:=wi.size_pos i;have u:=wi.ka i;have J:=wi.owner i (x:=Z5 (H.eM t) H.sp (m:Int) 1*256) (zD _) (by simp only at F ⊢;omega);generalize C:Z5 (H.eM t) H.sp (m:Int) 1=V at *;have r:bV H.live ((V*256:Nat):Int)=none:=h.tE λE U=>j _ (zV.2 rfl) E U;have w:Wt H t (.eV m)=({{H.cB (H.own t) (cD (H.eM t) H.sp (m:Int) 1).1 with sp:=(cD (H.eM t) H.sp (m:Int) 1).2,live:=dF H.live ((V*256:Nat):Int) (((V*256:Nat):Int),((m*256:Nat):Int), -1,YJ (H.bT.set (H.own t) (cD (H.eM t) H.sp (m:Int) 1).1) ((V*256:Nat):Int))}with bQ:=H.bQ.set t g},none,((V*256:Nat):Int),0):=by
   have:H.bQ.set t g=H.bQ:=Ql hg;rw[this];simp only[Wt,h0,zS,Hw.cB,VI,C]
  have e:=Z4 (H1:={H.cB (H.own t) (cD (H.eM t) H.sp (m:Int) 1).1 with sp:=(cD (H.eM t) H.sp (m:Int) 1).2,live:=dF H.live ((V*256:Nat):Int) (((V*256:Nat):Int),((m*256:Nat):Int), -1,YJ (H.bT.set (H.own t) (cD (H.eM t) H.sp (m:Int) 1).1) ((V*256:Nat):Int))}) K w;have G:=h.fO hg (g':={g with ph:=none}) (live':=dF H.live ((V*256:Nat):Int) (((V*256:Nat):Int),((m*256:Nat):Int), -1,YJ (H.bT.set (H.own t) (cD (H.eM t) H.sp (m:Int) 1).1) ((V*256:Nat):Int))) wi L D.l (by simp[Wd.put]) (E7 wi) (λE y=>by
   rw[CS _ r,CX (l:=[((V*256:Nat):Int)]) (cl:=-1) aA (λy N=>by
    simp only[zV]at N;subst N;exact j _ (zV.2 rfl) _) z]
   unfold gW;rw[hph];simp only[j4];omega) (Go.Vc.ib h.lk) (λW A=>by
    rcases(Du r).1 A with A|rfl
    ·exact .inl A
    ·refine .inr ⟨rfl,_,i,rfl,rfl,rfl,?_,?_⟩
     ·simp
     ·exact J) (λs a d=>by cases d) ⟨b.ll,b.lo,b.hb,b.hl,by
    unfold iB;exact M⟩
  refine⟨iP.mk' hg b.hl ?_ e G D,.inr (.inr ?_)⟩
  ·show Z5 (H.eM t) H.sp (m:Int) 1<=1000000;rw[C];simp only at u;omega
  ·rw[e,w];exact⟨rfl,rfl,r,rfl⟩
 ·rw[zA h0]at wi;have C:Z5 (H.eM t) H.sp (m:Int) 1=0:=by
   unfold Qz at h0;unfold Z5;split
   ·rename_i d;rw[d,zB rfl]at h0;split at h0
    ·exact(h0 rfl).elim
    ·rename_i hn;cases B:(cZ (H.eM t) H.sp (m:Int).toNat (1:Int).toNat 41).1 with
     | none=>rfl
     | some y=>rw[B]at hn;simp at hn
   ·rfl
  have w:Wt H t (.eV m)=({{H.cB (H.own t) (cD (H.eM t) H.sp (m:Int) 1).1 with sp:=(cD (H.eM t) H.sp (m:Int) 1).2}with bQ:=H.bQ.set t g},none,0,Qz (H.eM t) H.sp (m:Int) 1):=by
   have:H.bQ.set t g=H.bQ:=Ql hg;rw[this];simp only[Wt,h0,zy,Hw.cB]
  have e:=Z4 (H1:={H.cB (H.own t) (cD (H.eM t) H.sp (m:Int) 1).1 with sp:=(cD (H.eM t) H.sp (m:Int) 1).2}) K w;have G:=h.fO hg (g':={g with ph:=none}) (live':=H.live) wi L D.l (by simp[Wd.put]) (λp d _=>.inl d) (λE y=>by
   unfold gW;rw[hph];simp only[j4]) h.lk (λW A=>.inl A) (λs a d=>by cases d) ⟨b.ll,b.lo,b.hb,b.hl,by
    unfold iB;exact M⟩
  refine⟨iP.mk' hg b.hl ?_ e G D,.inr (.inl ?_)⟩
  ·show Z5 (H.eM t) H.sp (m:Int) 1<=1000000;rw[C];omega
  ·rw[e,w];exact⟨rfl,h0,rfl,rfl⟩
theorem S5 {W:Wd}(h:WI W)(hk:W.bT[k]?=some A){j:Nat}{l:List Int}(hl:∀x∈l,∃p∈W.held,mI k (j:Int) x p=true)(hn:l.Nodup)(hj:j<W.tb.length):QW A (j:Int) l=0/\WI (W.put k (Zg A (j:Int) l) W.sp (W.held.filter λp=>!eH k (j:Int) l p)):=by
 have ga:=h.ga k A hk;have d:jT W.held k (j:Int) l=true:=KC.2 ⟨hl,hn⟩;obtain⟨c,y,_,g,_⟩:=ga.cl (k:=j) (by rw[h.tb k A hk];exact hj);have e:QW A (j:Int) l=0:=by
  rw[H9 ga g];refine IS ⟨λx s=>?_,hn⟩;obtain⟨p,i,b⟩:=hl x s;obtain⟨m,r,u,w⟩:=KB.1 b;obtain⟨_,_,_,a,_⟩:=h.cls i r (by rw[m];exact hk);rw[u]at a;exact(KR g).1 a
 refine⟨e,?_⟩;have:=h.Mg hk d;rw[zB e,h.yD d]at this;exact this
theorem Fa {xs:List Int}{tb:List bW}{ars0:List AR}(hH:H.tb=tb)(h:WI ⟨tb,s0,H.bT,held⟩)(hk:k<tb.length)(hxs:∀x∈xs,Um held (k:Int) x)(hn:xs.Nodup)(ha:∀p∈held,YJ ars0 (p.addr:Int)=(p.k:Int)):∀j,j<=H.bT.length →
 ∃ars',Vp H k (ZV ars0 xs) (List.range j) = {H with bT:=ars'}/\ars'.length=H.bT.length/\WI ⟨tb,s0,ars',held.filter λp=>!(decide (p.k<j)&&(p.cls==(k:Int)&&xs.contains (p.addr:Int)))⟩
 | 0,_=>by
  refine⟨H.bT,rfl,rfl,?_⟩;have:(held.filter λp=>!(decide (p.k<0)&&(p.cls==(k:Int)&&xs.contains (p.addr:Int))))=held:=nT.2 λp _=>by simp
  rw[this];exact h
 | j+1,hj=>by
  obtain⟨ars',e,s,w⟩:=Fa hH h hk hxs hn ha j O;rw[Vg,e];have r:ars'[j]?=some (ars'[j]' O):=cM _;simp only[r];have Db:∀{p:Pc},p∈held->p.k=j->((p.addr:Int)∈ZV ars0 xs j↔(p.addr:Int)∈xs):=λ{p} b a=>by
   unfold ZV;rw[zH,ha p b,a];simp
  have d:((held.filter λp=>!(decide (p.k<j)&&(p.cls==(k:Int)&&xs.contains (p.addr:Int)))).filter λp=>!eH j (k:Int) (ZV ars0 xs j) p)=held.filter λp=>!(decide (p.k<j+1)&&(p.cls==(k:Int)&&xs.contains (p.addr:Int))):=by
   rw[Cn];apply zx;intro p b;have y:eH j (k:Int) (ZV ars0 xs j) p=(p.k==j&&(p.cls==(k:Int)&&xs.contains (p.addr:Int))):=by
    unfold eH;by_cases a:p.k=j
    ·have:=Db b a;have C:(ZV ars0 xs j).contains (p.addr:Int)=xs.contains (p.addr:Int):=by
      rw[nL,tT,tT];exact this
     rw[C]
    ·have:(p.k==j)=false:=by simpa using a
     rw[this];rfl
   rw[y];have B:decide (p.k<j+1)=(decide (p.k<j)||p.k==j):=by
    rw[nL];simp;omega
   rw[B];cases p.k==j<;>cases decide (p.k<j)<;>cases(p.cls==(k:Int)&&xs.contains (p.addr:Int))<;>rfl
  by_cases b:ZV ars0 xs j=[]
  ·rw[zB b];refine⟨ars',rfl,s,?_⟩;rw[←d,b];have:∀p:Pc,(!eH j (k:Int) [] p)=true:=λp=>by simp[eH]
   rw[nT.2 λp _=>this p];exact w
  ·rw[zA b];refine⟨ars'.set j (Zg (ars'[j]' O) (k:Int) (ZV ars0 xs j)),by simp[Hw.cB],by simp[s],?_⟩;rw[←d];refine(S5 w r (j:=k) (l:=ZV ars0 xs j) (λx u=>?_) (hn.sublist rO) hk).2;unfold ZV at u;obtain⟨i,g⟩:=zH.1 u;obtain⟨p,b,A,z,m⟩:=hxs x i;have a:p.k=j:=by
    have:=ha p b;rw[m]at this;rw[this]at g;have:(p.k:Int)=(j:Int):=by simpa using g
    omega
   exact⟨p,zH.2 ⟨b,by simp[a]⟩,KB.2 ⟨a,z,m,A⟩⟩
theorem RT {tb:List bW}(hH:H.tb=tb)(h:WI ⟨tb,s0,H.bT,held⟩){own:Nat}(hown:own<H.bT.length)(hk:k<tb.length){xs:List Int}(hxs:∀x∈xs,Um held (k:Int) x)(hn:xs.Nodup) :
 ∃ars' held',HU H own k xs = {H with bT:=ars'}/\ars'.length=H.bT.length/\WI ⟨tb,s0,ars',held'⟩/\(∀c x,Um held' c x↔Um held c x/\¬(c=(k:Int)/\x∈xs))/\∀p∈held',p.eA=false->p∈held:=by
 have m:H.bT[own]?=some H.bT[own]:=cM hown;have y:∀p∈held,YJ H.bT (p.addr:Int)=(p.k:Int):=λp a=>h.owner a (zD _) (by have:=(h.size_pos a).1;omega);have all:∃ars' held',Vp H k (ZV H.bT xs) (List.range H.bT.length) = {H with bT:=ars'}/\ars'.length=H.bT.length/\WI ⟨tb,s0,ars',held'⟩/\(∀c x,Um held' c x↔Um held c x/\¬(c=(k:Int)/\x∈xs))/\∀p∈held',p.eA=false->p∈held:=by
  obtain⟨ars',e,r,j⟩:=Fa hH h hk hxs hn y H.bT.length (zD _);refine⟨ars',_,e,r,j,λc x=>?_,λp a _=>(zH.1 a).1⟩;constructor
  ·rintro⟨p,a,i,g,d⟩;obtain⟨a,hf⟩:=zH.1 a;refine⟨⟨p,a,i,g,d⟩,?_⟩;rintro⟨rfl,b⟩;obtain⟨B,z,_⟩:=h.hf p a;have u:p.k<H.bT.length:=(cQ.1 z).1;rw[g,d]at hf;simp[u,b]at hf
  ·rintro⟨⟨p,a,i,g,d⟩,hno⟩;refine⟨p,zH.2 ⟨a,?_⟩,i,g,d⟩;rw[g,d];by_cases hc:c=(k:Int)
   ·have:x∉xs:=λb=>hno ⟨hc,b⟩;simp[this]
   ·simp[hc]
 unfold HU;rw[m];simp only;by_cases hcond:(ZV H.bT xs own).length=xs.length/\Vm H.bT[own] (k:Int) xs=true
 ·rw[zB hcond];have s:∀x∈xs,YJ H.bT x=(own:Int):=by
   have i:ZV H.bT xs own=xs:=by
    unfold ZV at hcond ⊢;exact List.filter_sublist.eq_of_length hcond.1
   intro x b;rw[←i]at b;unfold ZV at b;simpa using(zH.1 b).2
  have w:jT held own (k:Int) xs=true:=KC.2 ⟨λx b=>by
   obtain⟨p,a,i,g,d⟩:=hxs x b;have C:=y p a;rw[d,s x b]at C;exact⟨p,a,KB.2 ⟨O,g,d,i⟩⟩,hn⟩
  have j:=h.Ro m w;rw[zB hcond.2]at j;exact⟨_,_,rfl,by simp[Hw.cB],j,Ν h w,NT⟩
 ·rw[zA hcond];have e:(if(ZV H.bT xs own).length=xs.length then H.cB own (Q7 H.bT[own] (k:Int) xs)else H)=H:=by
   split
   ·rename_i r;have A:Vm H.bT[own] (k:Int) xs=false:=by
     apply mL.2;intro b;exact hcond ⟨r,b⟩
    have:Q7 H.bT[own] (k:Int) xs=H.bT[own]:=by unfold Q7;rw[A];rfl
    rw[this];exact FD m
   ·rfl
  rw[e];exact all
def mO:Ph->Prop
 | .find _=>True
 | .put _ _=>True
 | .back=>True
 | .dJ _ _=>True
 | .drain=>True
 | _=>False
def qv (g:Th):Ph->Nat
 | .find _=>101
 | .put _ _=>100
 | .drain=>100
 | .back=>g.bP.length
 | _=>0
def oD (H:Hw)(t:Nat)(g:Th)(p:Ph):Prop:=(Wt H t p).2.2.1=0 ∧
 ((∃p' g',(Wt H t p).2.1=some p'/\mO p'/\(∀x,p'≠.find x)/\(QS H t p).bQ[t]?=some g'/\qv g' p'<qv g p)\/(Wt H t p).2.1=none) ∧
 ((∀x,p≠.find x)->(Wt H t p).2.2.2=0/\(QS H t p).live=H.live) ∧
 (∀x,p=.find x->(bV H.live x=none->(Wt H t p).2.1=none/\(Wt H t p).2.2.2≠0/\(QS H t p).live=H.live)/\(∀b,bV H.live x=some b->(Wt H t p).2.2.2=0/\(QS H t p).live=cT H.live x))
theorem AB (hg:H.bQ[t]?=some g):kf H t=if g.bP=[]then none else some .back:=by unfold kf;rw[hg]
theorem TJ (h:HI H held s0)(hg:H.bQ[t]?=some g){x:Int}(hph:g.ph=some (.find x)):iP H t (.find x)/\oD H t g (.find x):=by
 have D:=(cQ.1 hg).1;have d:=h.th g (h.mem hg);obtain⟨N,C⟩:g.bP=[]/\iL x:=by have:=d.ph;unfold iB at this;rw[hph]at this;exact this
 have U:∀A∈H.bT,ja A:=λA V=>by
  obtain⟨j,hj⟩:=zN V;exact(h.wi.ga j A hj).pT
 cases hm:bV H.live x with
 | none=>
  have w:Wt H t (.find x)=({H with bQ:=H.bQ.set t g},none,0,mB H x):=by
   have:H.bQ.set t g=H.bQ:=Ql hg;rw[this];simp only[Wt,UY,hm]
  have e:=Z4 D w;have K:=h.kO hg (g':={g with ph:=none}) (live':=H.live) (λE x=>by
   unfold gW;rw[hph];simp only[j4]) h.lk (λY M=>.inl M) (λs a P=>by cases P) ⟨d.ll,d.lo,d.hb,d.hl,by
    unfold iB;exact N⟩
  refine⟨iP.mk' hg d.hl ⟨C,λ_=>U,λb hb=>by rw[hm]at hb;cases hb⟩ e K (KS.refl _),?_⟩;unfold oD;rw[e,w];refine⟨rfl,.inr rfl,λi=>(i x rfl).elim,λy m=>?_⟩;cases m;refine⟨λ_=>⟨rfl,?_,rfl⟩,(λb hb=>by rw[hm]at hb;cases hb)⟩;show mB H x≠0;unfold mB
  repeat' split
  all_goals simp
 | some b=>
  have S:=KA hm;obtain⟨_,p,P,h1,Q,W,h4,Z⟩:=h.lv _ S;simp only at Q W h4 Z;have R:0<=x:=by omega
  obtain⟨A,V,hd⟩:=h.wi.hf p P;have X:uJ H t (.find x):=⟨C,(λi=>by rw[hm]at i;cases i),λ_ _=>R⟩;rcases hd with⟨c1,_,r,hr,c2,c3⟩|⟨j,c,c1,c2,c3,_⟩
  ·have J:b.2.2.1 = -1:=by rw[←Q,c1]
   have w:Wt H t (.find x)=({{H with live:=cT H.live x}with bQ:=H.bQ.set t g},some (.dJ (x/256) b.2.2.2),0,0):=by
    have:H.bQ.set t g=H.bQ:=Ql hg;rw[this];simp only[Wt,UY,hm];rw[zB O]
   have e:=Z4 (H1:={H with live:=cT H.live x}) D w;have u:x/256*256=x:=by omega
   have K:=h.kO hg (g':={g with ph:=some (.dJ (x/256) b.2.2.2)}) (live':=cT H.live x) (λE y=>by
    have z:=Ay h.lk hm E y;rw[J]at z;unfold gW;rw[hph];simp only[j4,u];by_cases m:x=y
    ·subst m;rw[A3]at z;by_cases hk : -1=E
     ·rw[zB hk]at z;rw[zB ⟨hk.symm,rfl⟩];omega
     ·rw[zA hk]at z;rw[zA (λC=>hk C.1.symm)];omega
    ·have:[x].count y=0:=wy.2 aE;rw[this]at z;rw[zA (λC=>m C.2.symm)];split at z<;>omega)
    (Go.Vc.jL h.lk) (λY M=>.inl (Cq.1 M).1) (λs a B=>by
     cases B;exact⟨p,P,h1,c1,by rw[u];exact W,Z⟩) ⟨d.ll,d.lo,d.hb,d.hl,by
      unfold iB;exact N⟩
   refine⟨iP.mk' hg d.hl X e K (KS.refl _),?_⟩;unfold oD;rw[e,w];refine⟨rfl,.inl ⟨_,_,rfl,trivial,(λy m=>by cases m),zM D,by simp[qv]⟩,λi=>(i x rfl).elim,λy m=>?_⟩;cases m;exact⟨(λi=>by rw[hm]at i;cases i),λ_ _=>⟨rfl,rfl⟩⟩
  ·have G:b.2.2.1=(j:Int):=by rw[←Q,c1]
   have L:j<H.tb.length:=by
    rw[h.wi.tb _ _ V]at c2;exact(cQ.1 c2).1
   have w:Wt H t (.find x)=({{H with live:=cT H.live x}with bQ:=H.bQ.set t {g with bP:=[(j,[x])]}},some (.put j x),0,0):=by
    simp only[Wt,UY,hm];rw[zA O,G,dC];unfold QP;rw[ZL (g:=g) (by exact hg),N];rfl
   have e:=Z4 (H1:={H with live:=cT H.live x}) D w;have K:=h.kO hg (g':={g with bP:=[(j,[x])],ph:=some (.put j x)}) (live':=cT H.live x) (λE y=>by
    have z:=Ay h.lk hm E y;rw[G]at z;unfold gW;rw[hph,N];simp only[j4,Kz,VF];omega)
    (Go.Vc.jL h.lk) (λY M=>.inl (Cq.1 M).1) (λs a B=>by cases B) ⟨d.ll,d.lo,λb' F=>by
     simp only[zV]at F;subst F;exact⟨L,by simp,by simp⟩,by simp,by
     unfold iB;exact⟨rfl,L⟩⟩
   refine⟨iP.mk' hg d.hl X e K (KS.refl _),?_⟩;unfold oD;rw[e,w];refine⟨rfl,.inl ⟨_,_,rfl,trivial,(λy m=>by cases m),zM D,by simp[qv]⟩,λi=>(i x rfl).elim,λy m=>?_⟩;cases m;exact⟨(λi=>by rw[hm]at i;cases i),λ_ _=>⟨rfl,rfl⟩⟩
theorem EZ {f:bW->Li->List Int×Li}{tb:List bW}{ls:List Li}{b:Bt}(h:b∈Ka f tb ls):b.1<tb.length/\b.2≠[]/\∃c∈tb,∃l∈ls,b.2=(f c l).1:=by
 unfold Ka at h;obtain⟨k,d,a⟩:=vF.1 h;split at a
 ·rename_i c l hc hl;split at a
  ·cases a
  ·cases a;exact⟨zU.1 d,by assumption,c,zE hc,l,zE hl,rfl⟩
 ·cases a
theorem JI {f:bW->Li->List Int×Li}{tb:List bW}{ls:List Li}{l':Li}(h:l'∈Q6 f tb ls):∃c∈tb,∃l∈ls,l'=(f c l).2:=by
 unfold Q6 at h;obtain⟨i,a⟩:=zN h;rw[BV]at a;split at a
 ·rename_i c l hc hl;cases a;exact⟨c,zE hc,l,zE hl,rfl⟩
 ·cases a
theorem Ep {f:bW->Li->List Int×Li}{tb:List bW}{ls:List Li}(h:ls.length=tb.length):(Q6 f tb ls).length=tb.length:=by
 unfold Q6;rw[List.length_zipWith];omega
theorem Jm (c:bW)(l:Li):(KH c l).2.os.length<=l.os.length/\(KH c l).1.length<=l.os.length:=by
 simp only[KH,gQ,zu,zO];omega
theorem Jh (c:bW)(l:Li):(ZX c l).2.os.length<=l.os.length/\(ZX c l).1.length<=l.os.length:=by
 simp only[ZX,gQ,zu,zO];omega
theorem Su (h:HI H held s0)(hg:H.bQ[t]?=some g)(hph:g.ph=some .drain):iP H t .drain/\oD H t g .drain:=by
 have m:=(cQ.1 hg).1;have d:=h.th g (h.mem hg);have w:g.bP=[]:=by have:=d.ph;unfold iB at this;rw[hph]at this;exact this
 have C:=h.mA;have K:=Bc ZX H.tb g.ls;have u:Wt H t .drain=({H with bQ:=H.bQ.set t {g with ls:=Q6 ZX H.tb g.ls,bP:=Ka ZX H.tb g.ls}},(if Ka ZX H.tb g.ls=[]then none else some .back),0,0):=by
  simp only[Wt,ZL hg];rw[AB (g:={g with ls:=Q6 ZX H.tb g.ls,bP:=Ka ZX H.tb g.ls}) (by simp[m])]
 have e:=Z4 m u;have D:=h.kO hg (g':={ls:=Q6 ZX H.tb g.ls,bP:=Ka ZX H.tb g.ls,ph:=if Ka ZX H.tb g.ls=[]then none else some .back}) (live':=H.live) (λr x=>by
  have M:=Lg (f:=ZX) Rx d.ll r x;unfold gW;rw[hph,w];have:j4 (if Ka ZX H.tb g.ls=[]then none else some Ph.back) r x=0:=by split<;>rfl
  simp only[this,VF];simp only[j4];omega) h.lk (λL E=>.inl E) (λs a p=>by
   simp only at p;split at p<;>cases p) ⟨Ep d.ll,λl hl=>by
   obtain⟨c,_,j,i,rfl⟩:=JI hl;have:=d.lo j i;have:=Jh c j;exact⟨ς (d.lo j i).1,O⟩,λb B=>by
   obtain⟨F,G,c,_,j,i,J⟩:=EZ B;have:=d.lo j i;have:=Jh c j;exact⟨F,G,by rw[J];omega⟩,by simp only;omega,by
   unfold iB;by_cases ho:Ka ZX H.tb g.ls=[]
   ·rw[zB ho];exact ho
   ·rw[zA ho];exact ho⟩
 refine⟨iP.mk' hg d.hl trivial e D (KS.refl _),?_⟩;unfold oD;rw[e,u];refine⟨rfl,?_,λ_=>⟨rfl,rfl⟩,λx z=>by cases z⟩;by_cases ho:Ka ZX H.tb g.ls=[]
 ·exact .inr (by simp only;rw[zB ho])
 ·exact .inl ⟨.back,_,by simp only;rw[zA ho],trivial,(λy A=>by cases A),zM m,by simp only[qv];omega⟩
theorem WmK (h:HI H held s0)(hg:H.bQ[t]?=some g){s a:Int}(hph:g.ph=some (.dJ s a)):iP H t (.dJ s a)/\oD H t g (.dJ s a):=by
 have L:=(cQ.1 hg).1;have b:=h.th g (h.mem hg);have N:g.bP=[]:=by have:=b.ph;unfold iB at this;rw[hph]at this;exact this
 obtain⟨p,C,Z,M,X,h4⟩:=h.gv g (h.mem hg) s a hph;obtain⟨A,y,_⟩:=h.wi.hf p C;have w:H.bT[p.k]?=some A:=y;have U:=(cQ.1 w).1;obtain⟨_,r,K,W,c3⟩:=h.wi.run C M y;have ga:=h.wi.ga _ _ y;have d:s=(r.1:Int):=by omega
 have P:KT A s=0:=by
  unfold KT;rw[zB];unfold qz;rw[Bg];exact⟨r,K,by simp[d]⟩
 have E:jT held p.k (-1) [s*256]=true:=by rw[d];exact h.wi.nv y K
 have wi:=h.wi.wb y s;rw[zB P,h.wi.yD E]at wi;have z:a.toNat=p.k:=by omega
 have J:Wt H t (.dJ s a)=({H.cB p.k (QE A s)with bQ:=H.bQ.set t g},none,0,0):=by
  have:H.bQ.set t g=H.bQ:=Ql hg;rw[this];simp only[Wt,z,w,Hw.cB]
 have e:=Z4 (H1:=H.cB p.k (QE A s)) L J;have Q:=h.fO hg (g':={g with ph:=none}) (live':=H.live) wi h.kZ rfl (by simp[Wd.put]) (λq D _=>.inl (zH.1 D).1) (λm x=>by
  have i:=Fm (held':=held.filter λF=>!eH p.k (-1) [s*256] F) (l:=[s*256]) (cl:=-1) aA (NF E) (PY h.wi E) m x;have i:k5 held m x=k5 (held.filter λF=>!eH p.k (-1) [s*256] F) m x+(if -1=m then[s*256].count x else 0):=i
  unfold gW;rw[hph];simp only[j4];by_cases hy:s*256=x
  ·subst hy;rw[A3]at i;by_cases hk : -1=m
   ·rw[zB hk]at i;rw[zB ⟨hk.symm,rfl⟩];omega
   ·rw[zA hk]at i;rw[zA (λu=>hk u.1.symm)];omega
  ·have:[s*256].count x=0:=wy.2 aE;rw[this]at i;rw[zA (λu=>hy u.2.symm)];split at i<;>omega) h.lk (λY V=>.inl V) (λs a C=>by cases C) ⟨b.ll,b.lo,b.hb,b.hl,by
   unfold iB;exact N⟩
 refine⟨iP.mk' hg b.hl ⟨O,O,λB R q D=>?_⟩ e Q (KS.refl _),?_⟩
 ·obtain⟨j,S⟩:=zN R;have G:=h.wi.ga j B S;have:=G.fit D;have:=G.pg.n2;omega
 ·unfold oD;rw[e,J];exact⟨rfl,.inr rfl,λ_=>⟨rfl,rfl⟩,λx u=>by cases u⟩
theorem Sn (h:HI H held s0)(hg:H.bQ[t]?=some g)(hph:g.ph=some .back):iP H t .back/\oD H t g .back:=by
 have D:=(cQ.1 hg).1;have d:=h.th g (h.mem hg);have P:g.bP≠[]:=by have:=d.ph;unfold iB at this;rw[hph]at this;exact this
 have C:=GP hg;cases hhd:g.bP with
 | nil=>exact(P hhd).elim
 | cons b r=>
  obtain⟨k,w⟩:=b;obtain⟨L,z,E⟩:=d.hb (k,w) (by rw[hhd];simp);simp only at L z E;have m:∀x,w.count x<=gW g (k:Int) x:=λx=>by
   unfold gW;rw[hhd,Kz,zB rfl];simp only;omega
  have i:∀x∈w,Um held (k:Int) x:=λx u=>h.qP (h.mem hg) (zI (CL.2 u) (m x));have A:w.Nodup:=Ax.2 λx=>by
   have S:=m x;have V:=h.py (h.mem hg) (k:Int) x;have W:=FE held (k:Int) x;omega
  obtain⟨j,G,M,F,wi,um,sub⟩:=RT (H:={H with bQ:=H.bQ.set t {g with bP:=r}}) (tb:=H.tb) rfl h.wi (h.ku t) L i A;have K:Wt H t .back=({{H with bT:=j}with bQ:=H.bQ.set t {g with bP:=r}},(if r=[]then none else some .back),0,0):=by
   simp only[Wt,C,hhd,ZL hg,M];rw[AB (g:={g with bP:=r}) (by simp[D])]
  have e:=Z4 (H1:={H with bT:=j}) D K;have R:=h.fO hg (g':={g with bP:=r,ph:=if r=[]then none else some .back}) (live':=H.live) wi h.kZ rfl F (λp B N=>.inl (sub p B N)) (λJ x=>by
   have S:=Fm A i um J x;unfold gW;rw[hph,hhd,Kz];have:j4 (if r=[]then none else some Ph.back) J x=0:=by split<;>rfl
   simp only[this];simp only[j4];omega) h.lk (λX U=>.inl U) (λs a B=>by
    simp only at B;split at B<;>cases B) ⟨d.ll,d.lo,λb hb=>d.hb b (by rw[hhd];exact kM _ hb),by have:=d.hl;rw[hhd]at this;simp at this ⊢;omega,by
    unfold iB;by_cases ho:r=[]
    ·rw[zB ho];exact ho
    ·rw[zA ho];exact ho⟩
  refine⟨iP.mk' hg d.hl ⟨k,w,r,by rw[C];exact hhd,λx u=>⟨(h.i63 (i x u)).1,(h.i63 (i x u)).2.2⟩,O⟩ e R (KS.refl _),?_⟩;unfold oD;rw[e,K];refine⟨rfl,?_,λ_=>⟨rfl,rfl⟩,λx u=>by cases u⟩;by_cases ho:r=[]
  ·exact .inr (by simp only;rw[zB ho])
  ·exact .inl ⟨.back,_,by simp only;rw[zA ho],trivial,(λy Q=>by cases Q),zM D,by simp only[qv];rw[hhd];simp⟩
theorem Rw (h:HI H held s0)(hg:H.bQ[t]?=some g){x:Int}(hph:g.ph=some (.put k x)):iP H t (.put k x)/\oD H t g (.put k x):=by
 have B:=(cQ.1 hg).1;have r:=h.th g (h.mem hg);obtain⟨K,L⟩:g.bP=[(k,[x])]/\k<H.tb.length:=by have:=r.ph;unfold iB at this;rw[hph]at this;exact this
 obtain⟨c,hc,E⟩:=h.cls L;obtain⟨l,hl,S,G,hlm⟩:=r.li L;have F:=GP hg;have h40:=h.mA;have U:=Py (x:=x) E G;have P:=NN c x l O;have aa:(dQ c x l).1.length<=129/\(dQ c x l).2.os.length<=128:=by
  have ac:=G.lim;have u:(eL [x] l).os=l.os++[x]:=by unfold eL;rw[zA aE]
  have V:(nf c (eL [x] l)).os=l.os++[x]:=by rw[←u];unfold nf;split<;>rfl
  unfold bW.ok at E;unfold dQ;rw[zA O];split
  ·rw[u];simp;omega
  ·simp only[gQ,V,zO,zu,zK,uw];omega
 obtain⟨Y,Q⟩:=r.iI (k:=k) U aa.2;have M:∃hs:List Bt,(if(dQ c x l).1=[]then[]else[(k,(dQ c x l).1)])=hs:=⟨_,rfl⟩
 obtain⟨i,j⟩:=M;have ab:i.length<=1:=by rw[←j];split<;>simp
 have z:∀b∈i,b.1<H.tb.length/\b.2≠[]/\b.2.length<=256:=λb p=>by
  rw[←j]at p;split at p
  ·simp at p
  ·simp only[zV]at p;subst p;exact⟨L,by assumption,by simp only;omega⟩
 have D:∀d y,my i d y=if(k:Int)=d then(dQ c x l).1.count y else 0:=λd y=>by
  rw[←j];split
  ·rename_i hn;rw[hn,VF];simp
  ·simp only[Kz,VF,zt]
 let g3:Th:={g with ls:=g.ls.set k (dQ c x l).2,bP:=i}
 let g4:Th:=if H.cf.dB<Qt H.tb g3.ls then{g3 with ls:=Q6 KH H.tb g3.ls,bP:=g3.bP++Ka KH H.tb g3.ls}else g3
 have Z:iE H t k x = {H with bQ:=H.bQ.set t g4}:=by
  have e2:(if(dQ c x l).1=[]then H.dZ t λh=>h.iI k (dQ c x l).2 else QP (H.dZ t λh=>h.iI k (dQ c x l).2) t k (dQ c x l).1) = {H with bQ:=H.bQ.set t {g with ls:=g.ls.set k (dQ c x l).2,bP:=(k,[x])::i}}:=by
   rw[←j];split
   ·rw[ZL hg,←K];rfl
   ·rw[ZL hg];unfold QP;rw[ZL (g:=g.iI k (dQ c x l).2) (by simp[B])];simp only[od,Th.iI,K];rfl
  have e3:({H with bQ:=H.bQ.set t {g with ls:=g.ls.set k (dQ c x l).2,bP:=(k,[x])::i}}:Hw).dZ t (λh=>{h with bP:=h.bP.drop 1}) = {H with bQ:=H.bQ.set t g3}:=by
   rw[ZL (g:={g with ls:=g.ls.set k (dQ c x l).2,bP:=(k,[x])::i}) (by simp[B])];simp only[od,yb,List.drop_zero];rfl
  have w:({H with bQ:=H.bQ.set t g3}:Hw).bQ[t]?=some g3:=by simp[B]
  unfold iE;simp only[Ud hc,F,S,e2,e3,GP w,ZL w,od];show(if H.cf.dB<Qt H.tb g3.ls then _ else _)=_
  simp only[g4];split<;>rfl
 have hg4:g4.ph=g.ph:=by simp only[g4];split<;>rfl
 have W:∀d y,mD g4.ls d y+my g4.bP d y=mD g.ls d y+my g.bP d y:=λd y=>by
  have X:=Al hl (dQ c x l).2 d y;have h2:=P y;have h3:mD g3.ls d y+my g3.bP d y=mD g.ls d y+my g.bP d y:=by
   simp only[g3];rw[D,K,Kz,VF];by_cases hkk:(k:Int)=d
   ·simp only[hkk,zS]at X ⊢;omega
   ·simp only[hkk,zy]at X ⊢;omega
  simp only[g4];split
  ·have h4:=Lg (f:=KH) Sm (tb:=H.tb) (ls:=g3.ls) Y d y;simp only[E8];omega
  ·exact h3
 have m:g4.ls.length=H.tb.length/\(∀l∈g4.ls,fR l/\l.os.length<=128)/\(∀b∈g4.bP,b.1<H.tb.length/\b.2≠[]/\b.2.length<=256)/\g4.bP.length<=41:=by
  have hsl:=Bc KH H.tb g3.ls;simp only[g4];split
  ·refine⟨Ep Y,λl hl=>?_,λb p=>?_,by simp only[zK,g3]at *;omega⟩
   ·obtain⟨J,N,C,A,rfl⟩:=JI hl;have h5:=Q C A;have:=Jm J C;exact⟨Ia (h.ok J N) h5.1,O⟩
   ·rcases zR.1 p with p|p
    ·exact z b p
    ·obtain⟨b1,b2,J,_,C,A,b3⟩:=EZ p;have h5:=Q C A;have:=Jm J C;exact⟨b1,b2,by rw[b3];omega⟩
  ·exact⟨Y,Q,z,by simp only[g3];omega⟩
 have hs:Wt H t (.put k x)=({H with bQ:=H.bQ.set t g4},(if g4.bP=[]then none else some .back),0,0):=by
  show(iE H t k x,kf (iE H t k x) t,0,0)=_;rw[Z,AB (g:=g4) (by simp[B])]
 have e:=Z4 B hs;have hi:=h.kO hg (g':={g4 with ph:=if g4.bP=[]then none else some .back}) (live':=H.live) (λd y=>by
  have X:=W d y;unfold gW;rw[hph];have:j4 (if g4.bP=[]then none else some Ph.back) d y=0:=by split<;>rfl
  simp only[this];simp only[j4];omega) h.lk (λe' he=>.inl he) (λs a R=>by
   simp only at R;split at R<;>cases R) ⟨m.1,m.2.1,m.2.2.1,m.2.2.2,by
   unfold iB;by_cases ho:g4.bP=[]
   ·simp only[ho,zS]
   ·simp only[ho,zy];exact ho⟩
 refine⟨iP.mk' hg r.hl ⟨L,by rw[F,K];simp⟩ e hi (KS.refl _),?_⟩;unfold oD;rw[e,hs];refine⟨rfl,?_,λ_=>⟨rfl,rfl⟩,λx hx=>by cases hx⟩;by_cases ho:g4.bP=[]
 ·exact .inr (by simp only;rw[zB ho])
 ·exact .inl ⟨.back,_,by simp only;rw[zA ho],trivial,(λy hy=>by cases hy),zM B,by simp only[qv];have:=m.2.2.2;omega⟩
end Go.Ar
namespace Go.Ar
open Go Go.Vc Go.Proofs
open Go.Bu (gE C3 Di)
variable {σ u w w':Hp}{F B P Q:Rg}{L:dS}{H H':Hw}{t n:Nat}{g:Th}
def xH (size:Int):Int:=(size+255)/256*256
def td (tb:List bW)(size align:Int):Int×Int:=
 if size<=16384/\KN size align=true then(match gO tb size align with
  | some k=>((tb.getD k ⟨8,1,1⟩).size:Int)
  | none=>xH size,0)else(0,1)
theorem Wlg {a:Int}(h1:1<=a)(h2:a<=256):(bits .and .i64 a (a-1) != 0) = !gE a:=by
 obtain⟨a,rfl⟩:=zk (show 0<=a by omega);rw[show(a:Int)-1=((a-1:Nat):Int) by omega,Go.Bu.jy O O,C3,←Di O O];simp only[bne,Bool.not_inj_iff];rw[nL];simp only[zZ];omega
end Go.Ar
namespace Go.Ar
open Go Go.Vc Go.Proofs
variable {σ u w w':Hp}{F B P Q:Rg}{L:dS}{H H':Hw}{t n:Nat}{g:Th}
theorem JY {tb:List bW}{size align:Int}{k:Nat}(h:gO tb size align=some k):k<tb.length:=(x8.1 h).1
end Go.Ar
namespace Go.Ar
open Go.Vc (bV dF cT)
variable {H H':Hw}{held:List Pc}{s0:Sp}{t k j:Nat}{g:Th}{A:AR}{c:bW}
theorem KE (f:Th->Th)(hj:j≠t):(H.dZ t f).bQ[j]?=H.bQ[j]? := by
 simp[Hw.dZ,s8,Ne.symm hj]
theorem Pe (x:Int)(hj:j≠t):(iE H t k x).bQ[j]?=H.bQ[j]? := by
 unfold iE QP;simp only;split<;>split<;>simp only[KE _ hj]
theorem RB (p:Ph)(hj:j≠t):(Wt H t p).1.bQ[j]?=H.bQ[j]? := by
 cases p with
 | take k=>simp only[Wt];split<;>simp only[VI,KE _ hj]
 | cN k w=>
  simp only[Wt];split
  ·split
   ·unfold QP;rw[KE _ hj];rfl
   ·rfl
  ·rfl
 | cO k w=>
  simp only[Wt];split
  ·rfl
  ·unfold QP;rw[KE _ hj];rfl
 | grow k w=>simp only[Wt];split<;>rfl
 | fill=>simp only[Wt];split<;>simp only[VI,KE _ hj]
 | eV m=>simp only[Wt];split<;>rfl
 | find x=>
  simp only[Wt,UY];split
  ·rfl
  ·split
   ·rfl
   ·unfold QP;rw[KE _ hj]
 | put k x=>exact Pe x hj
 | back=>
  simp only[Wt];split
  ·rw[AF,KE _ hj]
  ·rfl
 | dJ s a=>simp only[Wt];split<;>rfl
 | drain=>simp only[Wt,KE _ hj]
theorem HD (p:Ph)(hj:j≠t):(QS H t p).bQ[j]?=H.bQ[j]? := by
 unfold QS eT;rw[KE _ hj,RB p hj]
def gU (H:Hw)(j:Nat):Option Ph:=(H.bQ[j]?).bind (·.ph)
def xE (H H':Hw)(t:Nat):Prop:=gU H' t=none/\∀j,j≠t->gU H' j=gU H j
theorem D3 (h:HI H held s0)(hg:H.bQ[t]?=some g){p:Ph}(hp:g.ph=some p){cl sz:Int}(hr:Rq H.tb g p cl sz):iP H t p/\sL H t p cl sz:=by
 cases p with
 | take k=>exact MB h hg hp hr
 | cN k w=>exact Pf h hg hp hr
 | cO k w=>exact Oj h hg hp hr
 | grow k w=>exact Nb h hg hp hr
 | fill=>exact SR h hg hp hr
 | eV m=>exact Mz h hg hp hr
 | find x=>exact hr.elim
 | put k x=>exact hr.elim
 | back=>exact hr.elim
 | dJ s a=>exact hr.elim
 | drain=>exact hr.elim
theorem Dh (h:HI H held s0)(hg:H.bQ[t]?=some g){p:Ph}(hp:g.ph=some p)(hf:mO p):iP H t p/\oD H t g p:=by
 cases p with
 | take k=>exact hf.elim
 | cN k w=>exact hf.elim
 | cO k w=>exact hf.elim
 | grow k w=>exact hf.elim
 | fill=>exact hf.elim
 | eV m=>exact hf.elim
 | find x=>exact TJ h hg hp
 | put k x=>exact Rw h hg hp
 | back=>exact Sn h hg hp
 | dJ s a=>exact WmK h hg hp
 | drain=>exact Su h hg hp
theorem Am {p:Ph}(ht:t<H.bQ.length):∃g',(QS H t p).bQ[t]?=some g'/\g'.ph=(Wt H t p).2.1:=IG ht
theorem En {cl sz:Int}:∀(n:Nat) {H:Hw} {held:List Pc} {s0:Sp} {g:Th} {p:Ph},HI H held s0->H.bQ[t]?=some g->g.ph=some p->Rq H.tb g p cl sz->p8 H t p<=n →
 ∃m H' a e,iO m H t p H' a e/\(∃held s0,HI H' held s0)/\KS H.sp H'.sp/\xE H H' t/\((e≠0/\a=0/\H'.live=H.live)\/(e=0/\bV H.live a=none/\H'.live=dF H.live a (a,sz,cl,YJ H'.bT a)))
 | n,H,held,s0,g,p,h,hg,hp,hr,hn=>by
  have ht:=(cQ.1 hg).1;obtain⟨s,C⟩:=D3 h hg hp hr;have d:(Wt H t p).2.1=none->xE H (QS H t p) t:=λF=>by
   obtain⟨G,y,w⟩:=Am (p:=p) ht;exact⟨by unfold gU;rw[y];exact w.trans F,λj u=>by unfold gU;rw[HD p u]⟩
  rcases C with⟨p',G,e1,e2,e3,e4,e5⟩|⟨e1,e2,e3,e4⟩|⟨e1,e2,e3,e4⟩
  ·obtain⟨z,D,E⟩:=s.hi;obtain⟨J,i,ke⟩:=Am (p:=p) ht;rw[e3]at i;cases i;have x:(QS H t p).tb=H.tb:=(HY H t p).1;have B:p8 (QS H t p) t p'<n:=by omega
   obtain⟨m,H',a,e,r,hi,ks,A,b⟩:=En (p8 (QS H t p) t p') E e3 (ke.trans e1) (by rw[x];exact e4) (zD _);refine⟨m+1,H',a,e,.next s.ok e1 r,hi,s.ks.trans ks,⟨A.1,λj u=>(A.2 j u).trans (by unfold gU;rw[HD p u])⟩,?_⟩;rw[e2]at b;exact b
  ·exact⟨1,_,_,_,.done s.ok e1,s.hi,s.ks,d e1,.inl ⟨e2,e3,e4⟩⟩
  ·exact⟨1,_,_,_,.done s.ok e1,s.hi,s.ks,d e1,.inr ⟨e2,e3,e4⟩⟩
termination_by n=>n
theorem Ec:∀(n:Nat) {H:Hw} {held:List Pc} {s0:Sp} {g:Th} {p:Ph},HI H held s0->H.bQ[t]?=some g->g.ph=some p->mO p->qv g p<=n →
 ∃m H' e,iO m H t p H' 0 e/\(∃held s0,HI H' held s0)/\KS H.sp H'.sp/\xE H H' t/\((∀x,p≠.find x)->e=0/\H'.live=H.live) ∧
  (∀x,p=.find x->(bV H.live x=none->e≠0/\H'.live=H.live)/\(∀b,bV H.live x=some b->e=0/\H'.live=cT H.live x))
 | n,H,held,s0,g,p,h,hg,hp,hf,hn=>by
  have ht:=(cQ.1 hg).1;obtain⟨s,Q,L,J,a⟩:=Dh h hg hp hf;rcases L with⟨p',C,e1,e2,e3,e4,e5⟩|e1
  ·obtain⟨D,M,N⟩:=s.hi;obtain⟨R,i,ke⟩:=Am (p:=p) ht;rw[e4]at i;cases i;have K:qv C p'<n:=by omega
   obtain⟨m,H',e,r,hi,ks,E,w,_⟩:=Ec (qv C p') N e4 (ke.trans e1) e2 (zD _);obtain⟨F,G⟩:=w e3;refine⟨m+1,H',e,.next s.ok e1 r,hi,s.ks.trans ks,⟨E.1,λj u=>(E.2 j u).trans (by unfold gU;rw[HD p u])⟩,λd=>⟨F,G.trans (J d).2⟩,λx d=>⟨λy=>?_,λb P=>⟨F,G.trans ((a x d).2 b P).2⟩⟩⟩;have:=((a x d).1 y).1;rw[e1]at this;cases this
  ·have A:xE H (QS H t p) t:=by
    obtain⟨C,B,z⟩:=Am (p:=p) ht;exact⟨by unfold gU;rw[B];exact z.trans e1,λj u=>by unfold gU;rw[HD p u]⟩
   have r:=iO.done (H:=H) (t:=t) s.ok e1;rw[Q]at r;exact⟨1,_,_,r,s.hi,s.ks,A,J,λx d=>⟨λy=>((a x d).1 y).2,(a x d).2⟩⟩
termination_by n=>n
structure iC (H H':Hw):Prop where
 hi:∃held s0,HI H' held s0
 ks:KS H.sp H'.sp
 kp:Z8 H' H
 ph:∀j,gU H' j=gU H j
theorem iC.refl (h:HI H held s0):iC H H:=⟨⟨held,s0,h⟩,KS.refl _,Z8.refl _,λ_=>rfl⟩
theorem iC.trans {H1 H2 H3:Hw}(a:iC H1 H2)(b:iC H2 H3):iC H1 H3:=⟨b.hi,a.ks.trans b.ks,a.kp.trans b.kp,λj=>(b.ph j).trans (a.ph j)⟩
theorem Cv {tb:List bW}{kind size align addr:Int}{p:Ph}(h:iX tb kind size align addr=some p)(hx:iL addr)(hh:g.bP=[]):iB tb.length {g with ph:=some p}:=by
 unfold iX at h;split at h
 ·split at h
  ·split at h
   ·split at h
    ·rename_i k hk;cases h;exact⟨hh,JY hk⟩
    ·cases h;exact⟨hh,O,O⟩
   ·cases h
  ·cases h
 ·split at h
  ·cases h;exact⟨hh,hx⟩
  ·split at h
   ·cases h;exact hh
   ·cases h
theorem HI.eT (h:HI H held s0)(hg:H.bQ[t]?=some g)(hn:g.ph=none){p:Ph}(hp:iB H.tb.length {g with ph:=some p})(hq:∀s a,p≠.dJ s a):HI (eT H t (some p)) held s0:=by
 have b:=h.th g (h.mem hg);have e:Go.Ar.eT H t (some p) = {H with bQ:=H.bQ.set t {g with ph:=some p}}:=ZL hg _;rw[e];refine h.kO hg (live':=H.live) (λd x=>?_) h.lk (λj i=>.inl i) (λs a hp=>by cases hp;exact(hq s a rfl).elim) ⟨b.ll,b.lo,b.hb,b.hl,hp⟩;unfold gW;rw[hn];have:j4 (some p) d x=0:=by
  cases p<;>first|rfl|exact(hq _ _ rfl).elim
 simp only[this];simp only[j4]
theorem Gw (h:HI H held s0)(hg:H.bQ[t]?=some g)(hn:g.ph=none):g.bP=[]:=by
 have:=(h.th g (h.mem hg)).ph;unfold iB at this;rw[hn]at this;exact this
theorem Un (H:Hw)(thread kind size align addr:Int):(∃e,KJ H thread kind size align addr=.inl e/\e≠0)\/∃(t:Nat) (p:Ph) (g:Th),thread=(t:Int)/\H.bQ[t]?=some g/\g.ph=none/\iX H.tb kind size align addr=some p/\KJ H thread kind size align addr=.inr (t,p):=by
 unfold KJ;split
 ·split
  ·split
   ·split
    ·rename_i hth _ g hg hn _ p hp;exact .inr ⟨thread.toNat,p,g,O,hg,hn,hp,rfl⟩
    ·exact .inl ⟨1,rfl,by decide⟩
   ·exact .inl ⟨5,rfl,by decide⟩
  ·exact .inl ⟨1,rfl,by decide⟩
 ·exact .inl ⟨1,rfl,by decide⟩
theorem NC (hg:H.bQ[t]?=some g)(p:Option Ph)(hj:j≠t):gU (eT H t p) j=gU H j:=by
 unfold gU eT;rw[KE _ hj]
theorem Ef (hg:H.bQ[t]?=some g)(hn:g.ph=none){p:Ph}(ps:xE (eT H t (some p)) H' t):∀j,gU H' j=gU H j:=λj=>by
 by_cases hj:j=t
 ·subst hj;rw[ps.1];unfold gU;rw[hg];exact hn.symm
 ·rw[ps.2 j hj,NC hg _ hj]
def sO (H:Hw)(size align:Int)(H':Hw)(a e:Int):Prop:=(e≠0/\a=0/\H'.live=H.live) ∨
 (e=0/\bV H.live a=none/\(1<=size/\size<=16384/\KN size align=true)/\∃cl,H'.live=dF H.live a (a,(td H.tb size align).1,cl,YJ H'.bT a)/\((∃k:Nat,cl=k/\gO H.tb size align=some k)\/cl = -1/\gO H.tb size align=none))
theorem Rl (h:HI H held s0)(thread size align:Int):∃H' a e,U1 H thread 0 size align 0 H' a e/\iC H H'/\sO H size align H' a e:=by
 rcases Un H thread 0 size align 0 with⟨e,hs,hne⟩|⟨t,p,g,rfl,hg,hn,hq,hs⟩
 ·exact⟨H,0,e,.inl ⟨hs,hne,rfl,rfl⟩,iC.refl h,.inl ⟨hne,rfl,rfl⟩⟩
 ·have E:=Gw h hg hn;have j:=Cv (g:=g) hq (by unfold iL;decide) E;unfold iX at hq;rw[zB rfl]at hq;split at hq
  ·rename_i hsz;split at hq
   ·rename_i hok;have b:td H.tb size align=(match gO H.tb size align with
     | some k=>((H.tb.getD k ⟨8,1,1⟩).size:Int)
     | none=>xH size,0):=by
     unfold td;rw[zB ⟨hsz.2,hok⟩]
     first|done | (cases gO H.tb size align<;>rfl)
    obtain⟨cl,d,u⟩:∃cl,Rq H.tb {g with ph:=some p} p cl (td H.tb size align).1/\((∃k:Nat,cl=k/\gO H.tb size align=some k)\/cl = -1/\gO H.tb size align=none):=by
     cases hcv:gO H.tb size align with
     | some k=>
      rw[hcv]at hq b;cases hq;have y:=JY hcv;have z:H.tb[k]?=some H.tb[k]:=cM y;refine⟨k,⟨rfl,H.tb[k],z,?_⟩,.inl ⟨k,rfl,rfl⟩⟩;rw[b];simp only;rw[zL,z];rfl
     | none=>
      rw[hcv]at hq b;cases hq;refine⟨-1,⟨rfl,?_⟩,.inr ⟨rfl,rfl⟩⟩;rw[b];simp only;unfold xH;omega
    have x:∀s a,p≠.dJ s a:=λs a e=>by subst e;exact d.elim
    have C:=h.eT hg hn j x;have w:(Go.Ar.eT H t (some p)).bQ[t]?=some {g with ph:=some p}:=by
     have A:=(cQ.1 hg).1;have e:Go.Ar.eT H t (some p) = {H with bQ:=H.bQ.set t {g with ph:=some p}}:=ZL hg _;rw[e];simp[A]
    obtain⟨m,H',a,e,r,B,ks,D,i⟩:=En _ C w rfl d (zD _);refine⟨H',a,e,.inr ⟨t,p,m,hs,r⟩,⟨B,ks,(KK _ _ _).trans (Fc r),Ef hg hn D⟩,?_⟩;rcases i with⟨r1,r2,r3⟩|⟨r1,r2,r3⟩
    ·exact .inl ⟨r1,r2,r3⟩
    ·exact .inr ⟨r1,r2,⟨hsz.1,hsz.2,hok⟩,cl,r3,u⟩
   ·cases hq
  ·cases hq
def sQ (H:Hw)(thread addr:Int)(H':Hw)(e:Int):Prop:=
 (e≠0/\H'=H/\KJ H thread 1 0 0 addr=.inl e)\/((∃p,KJ H thread 1 0 0 addr=.inr p)/\bV H.live addr=none/\e≠0/\H'.live=H.live)\/((∃p,KJ H thread 1 0 0 addr=.inr p)/\∃b,bV H.live addr=some b/\e=0/\H'.live=cT H.live addr)
theorem Ej (h:HI H held s0)(hg:H.bQ[t]?=some g)(hn:g.ph=none){p:Ph}(hp:iB H.tb.length {g with ph:=some p})(hf:mO p)(hq:∀s a,p≠.dJ s a):∃m H' e,iO m (eT H t (some p)) t p H' 0 e/\iC H H'/\((∀x,p≠.find x)->e=0/\H'.live=H.live) ∧
 (∀x,p=.find x->(bV H.live x=none->e≠0/\H'.live=H.live)/\(∀b,bV H.live x=some b->e=0/\H'.live=cT H.live x)):=by
 have z:=h.eT hg hn hp hq;have d:(Go.Ar.eT H t (some p)).bQ[t]?=some {g with ph:=some p}:=by
  have i:=(cQ.1 hg).1;have e:Go.Ar.eT H t (some p) = {H with bQ:=H.bQ.set t {g with ph:=some p}}:=ZL hg _;rw[e];simp[i]
 obtain⟨m,H',e,r,j,ks,u,w,y⟩:=Ec _ z d rfl hf (zD _);exact⟨m,H',e,r,⟨j,ks,(KK _ _ _).trans (Fc r),Ef hg hn u⟩,w,y⟩
theorem Oq (h:HI H held s0)(thread addr:Int)(hx:iL addr):∃H' e,U1 H thread 1 0 0 addr H' 0 e/\iC H H'/\sQ H thread addr H' e:=by
 rcases Un H thread 1 0 0 addr with⟨e,hs,hne⟩|⟨t,p,g,rfl,hg,hn,hq,hs⟩
 ·exact⟨H,e,.inl ⟨hs,hne,rfl,rfl⟩,iC.refl h,.inl ⟨hne,rfl,hs⟩⟩
 ·have d:=Cv (g:=g) hq hx (Gw h hg hn);have j:p=.find addr:=by unfold iX at hq;simp at hq;exact hq.symm
  subst j;obtain⟨m,H',e,r,op,_,i⟩:=Ej h hg hn d trivial (λs a e=>by cases e);refine⟨H',e,.inr ⟨t,_,m,hs,r⟩,op,?_⟩;cases hm:bV H.live addr with
  | none=>exact .inr (.inl ⟨⟨_,hs⟩,hm,(i addr rfl).1 hm⟩)
  | some b=>exact .inr (.inr ⟨⟨_,hs⟩,b,hm,(i addr rfl).2 b hm⟩)
theorem Ty (h:HI H held s0)(thread:Int):∃H' e,U1 H thread 2 0 0 0 H' 0 e/\iC H H'/\H'.live=H.live:=by
 rcases Un H thread 2 0 0 0 with⟨e,hs,hne⟩|⟨t,p,g,rfl,hg,hn,hq,hs⟩
 ·exact⟨H,e,.inl ⟨hs,hne,rfl,rfl⟩,iC.refl h,rfl⟩
 ·have b:=Cv (g:=g) hq (by unfold iL;decide) (Gw h hg hn);have d:p=.drain:=by unfold iX at hq;simp at hq;exact hq.symm
  subst d;obtain⟨m,H',e,r,op,i,_⟩:=Ej h hg hn b trivial (λs a e=>by cases e);exact⟨H',e,.inr ⟨t,_,m,hs,r⟩,op,(i λx e=>by cases e).2⟩
end Go.Ar
namespace Go.Ar
open Go Go.Vc Go.Proofs
variable {σ u w w':Hp}{F B P Q:Rg}{L:dS}{H H':Hw}{t n k:Nat}{A:AR}{Y:Lay}
theorem Fr.refl (A:AR):Fr A A:=⟨rfl,rfl,rfl⟩
theorem Fr.trans {A B C:AR}(h:Fr B A)(k:Fr C B):Fr C A:=⟨k.1.trans h.1,k.2.1.trans h.2.1,k.2.2.trans h.2.2⟩
theorem Co {α:Type}(f:AR×Sp->α->AR×Sp)(hf:∀p x,Fr (f p x).1 p.1):∀(l:List α) (p:AR×Sp),Fr (l.foldl f p).1 p.1
 | [],p=>Fr.refl _
 | x::l,p=>(hf p x).trans (Co f hf l (f p x))
theorem IY (A:AR)(sp:Sp):Fr (eJ A sp).1 A:=Co Vn (λp x=>⟨rfl,rfl,rfl⟩) _ _
theorem Mm (A:AR):Fr (YI A) A:=⟨(Vx _ A).1,(Vx _ A).2.1,(Vx _ A).2.2.1⟩
theorem Ie (A:AR)(sp:Sp)(want:Int):Fr (dT A sp want).1 A:=by
 unfold dT;split
 ·exact Fr.refl A
 ·exact(Mm A).trans (Co fE (λp x=>⟨rfl,rfl,rfl⟩) _ _)
theorem ν (h:HH σ F L H)(hk:H.bT[k]?=some A)(hy:L.ys[k]?=some Y){R:aN}
 (hR:∀σ',Ext F σ σ'->HH σ' (Grow F σ) L {H.cB k (eJ A H.sp).1 with sp:=(eJ A H.sp).2}->R ((vu A:Nat):Int) σ'):Ys.c (aW Y.p) σ R:=by
 obtain⟨Y',G,D,d,_,r,a⟩:=h.lY hk;rw[hy]at d;cases d;refine RP r λσ' e m=>?_;have g:cF (eJ A H.sp).1 Y=cF A Y:=(IY A H.sp).cF Y;obtain⟨s,j⟩:=a σ' _ _ (Cut G σ) (Cut D σ) (IY A H.sp).1 e ⟨λb i=>.inl i.1,λb i=>i.1⟩ (by rw[g];exact m);exact hR σ' s j
theorem LS (h:HH σ F L H)(hk:H.bT[k]?=some A)(hy:L.ys[k]?=some Y)(want:Int)(h12:(VA (YI A).st).length<=12){R:Int->Int->Hp->Prop}
 (hR:∀σ',Ext F σ σ'->HH σ' (Grow F σ) L {H.cB k (dT A H.sp want).1 with sp:=(dT A H.sp want).2}->R ((kC A want:Nat):Int) (nQ want) σ'):Xl.c (aW Y.p) want σ R:=by
 obtain⟨Y',G,D,b,_,i,a⟩:=h.lY hk;rw[hy]at b;cases b;refine TC i want h12 λσ' G' D' j e g=>?_;have d:cF (dT A H.sp want).1 Y=cF A Y:=(Ie A H.sp want).cF Y;obtain⟨r,m⟩:=a σ' _ _ G' D' (Ie A H.sp want).1 e j (by rw[d];exact g);exact hR σ' r m
def QG (H:Hw)(n:Nat):Hw×Nat:=(List.range n).foldl (λ(p:Hw×Nat) k=>match p.1.bT[k]? with
 | some A=>({p.1.cB k (eJ A p.1.sp).1 with sp:=(eJ A p.1.sp).2},p.2+vu A)
 | none=>p) (H,0)
theorem UX (n:Nat):QG H (n+1)=(match (QG H n).1.bT[n]? with
 | some A=>({(QG H n).1.cB n (eJ A (QG H n).1.sp).1 with sp:=(eJ A (QG H n).1.sp).2},(QG H n).2+vu A)
 | none=>QG H n):=by
 unfold QG;rw[j7,mN];rfl
theorem Wek (H:Hw)(n:Nat):Z8 (QG H n).1 H:=by
 induction n with
 | zero=>exact Z8.refl H
 | succ n ih=>
  rw[UX];split
  ·exact ih.trans (Z9 _ _ _ _)
  ·exact ih
theorem Ms (h:HH σ F L H)(hb:∀n,n<=H.bT.length->(QG H n).2<=1000000){R:aN}(hR:∀σ',Ext F σ σ'->HH σ' (Grow F σ) L (QG H H.bT.length).1->R (((QG H H.bT.length).2:Nat):Int) σ'):ZA.c (aW L.p) σ R:=by
 refine ZA.o ?_;unfold ZA.v;refine Kx h (cG rfl (aG (h.hd.rS rfl ?_)));have J:=h.jX;have N:=h.s.a2;refine Ko (a:=bN) (bb:=bN) (λ(x z:Int) w=>∃(j:Nat) (B P:Rg),z=(j:Int)/\x=((QG H j).2:Int)/\j<=H.bT.length/\HK F σ B w P L (QG H j).1) (λ_ z _=>H.bT.length-z.toNat) ⟨0,_,_,rfl,rfl,O,HK.start h⟩ ?_;rintro(x:Int) (z:Int) w ⟨j,B,P,rfl,rfl,hj,K⟩;refine cI (λu=>?_) λC=>?_
 ·simp only at u;have g:j<H.bT.length:=by omega
  obtain⟨A,y⟩:∃A,(QG H j).1.bT[j]?=some A:=⟨_,cM (by rw[(Wek H j).2.2.2];exact g)⟩;obtain⟨Y,D,_,_⟩:=K.h.ar y;have d:=UX (H:=H) j;rw[y]at d;simp only at d;have Q:=hb (j+1) O;refine K.h.rA D (ν K.h y D λU G M=>?_);have K1:=K.to G M λb _ hb=>hb;have S:(QG H (j+1)).2=(QG H j).2+vu A:=by rw[d]
  have E:(QG H (j+1)).1 = {(QG H j).1.cB j (eJ A (QG H j).1.sp).1 with sp:=(eJ A (QG H j).1.sp).2}:=by rw[d]
  rw[←E]at K1;exact cA (m:=(QG H (j+1)).2) O O (cA (m:=j+1) O O ⟨⟨j+1,_,_,rfl,rfl,O,K1⟩,O⟩)
 ·have r:j=H.bT.length:=by simp only at C;omega
  subst r;exact hR w K.e (K.fin h)
def UB (H:Hw)(n:Nat):Hw:=(List.range n).foldl (λ(H:Hw) k=>match H.bT[k]? with
 | some A=>H.cB k (U7 A)
 | none=>H) H
theorem Hc (n:Nat):UB H (n+1)=(match (UB H n).bT[n]? with
 | some A=>(UB H n).cB n (U7 A)
 | none=>UB H n):=by
 unfold UB;rw[j7,mN];rfl
theorem WeX (H:Hw)(n:Nat):Z8 (UB H n) H:=by
 induction n with
 | zero=>exact Z8.refl H
 | succ n ih=>
  rw[Hc];split
  ·exact ih.trans (Z9 _ _ _ _)
  ·exact ih
theorem WlE (h:HH σ F L H)(hI:∀n A,n<H.bT.length->(UB H n).bT[n]?=some A->lP A){R:aP}(hR:∀σ',Ext F σ σ'->HH σ' (Grow F σ) L (UB H H.bT.length)->R σ'):ZC.c (aW L.p) σ R:=by
 refine ZC.o ?_;unfold ZC.v;refine Kx h (cG rfl (aG (h.hd.rS rfl ?_)));have N:=h.jX;have U:=h.s.a2;refine ZU (a:=bN) (λ(z:Int) w=>∃(j:Nat) (B P:Rg),z=(j:Int)/\j<=H.bT.length/\HK F σ B w P L (UB H j)) (λz _=>H.bT.length-z.toNat) ⟨0,_,_,rfl,O,HK.start h⟩ ?_;rintro(z:Int) w ⟨j,B,P,rfl,hj,K⟩;refine cI (λD=>?_) λC=>?_
 ·simp only at D;have u:j<H.bT.length:=by omega
  obtain⟨A,x⟩:∃A,(UB H j).bT[j]?=some A:=⟨_,cM (by rw[(WeX H j).2.2.2];exact u)⟩;obtain⟨Y,E,_,_⟩:=K.h.ar x;have d:=Hc (H:=H) j;rw[x]at d;simp only at d;refine K.h.rA E ?_;obtain⟨G,Z,M,g⟩:=K.h.lB x E;have r:=hI j A u x;refine Pv M r λJ X Q=>?_;obtain⟨V,S⟩:=g J (U7 A) (F6 _ A r).1 X Q;have K1:=K.to V S λb _ W=>W;rw[←d]at K1;exact cA (m:=j+1) O O ⟨⟨j+1,_,_,rfl,O,K1⟩,O⟩
 ·have y:j=H.bT.length:=by simp only at C;omega
  subst y;exact hR w K.e (K.fin h)
def QD (H:Hw)(want:Int)(n:Nat):Hw×Nat:=(List.range n).foldl (λ(p:Hw×Nat) k=>if want<=(p.2:Int)then p else match p.1.bT[k]? with
 | some A=>({p.1.cB k (dT A p.1.sp (want-p.2)).1 with sp:=(dT A p.1.sp (want-p.2)).2},p.2+kC A (want-p.2))
 | none=>p) (H,0)
theorem UM (want:Int)(n:Nat):QD H want (n+1)=(if want<=((QD H want n).2:Int)then QD H want n else match (QD H want n).1.bT[n]? with
 | some A=>({(QD H want n).1.cB n (dT A (QD H want n).1.sp (want-(QD H want n).2)).1 with sp:=(dT A (QD H want n).1.sp (want-(QD H want n).2)).2},(QD H want n).2+kC A (want-(QD H want n).2))
 | none=>QD H want n):=by
 unfold QD;rw[j7,mN];rfl
theorem EC {want:Int}{j:Nat}(h:want<=((QD H want j).2:Int)):∀n,j<=n->QD H want n=QD H want j
 | 0,hn=>by rw[show j=0 by omega]
 | n+1,hn=>by
  by_cases e:j=n+1
  ·rw[e]
  ·have ih:=EC h n O;rw[UM,ih,zB h]
theorem WgM (H:Hw)(want:Int)(n:Nat):Z8 (QD H want n).1 H:=by
 induction n with
 | zero=>exact Z8.refl H
 | succ n ih=>
  rw[UM];split
  ·exact ih
  ·split
   ·exact ih.trans (Z9 _ _ _ _)
   ·exact ih
theorem OE (h:HH σ F L H)(want:Int)(hw9:want<=9223372036854775807)(h12:∀n A,n<H.bT.length->(QD H want n).1.bT[n]?=some A->(VA (YI A).st).length<=12)(hb:∀n,n<=H.bT.length->(QD H want n).2<=1000000){R:Int->Int->Hp->Prop}
 (h1:want<0->R 0 1 σ) (hR:0<=want->∀σ',Ext F σ σ'->HH σ' (Grow F σ) L (QD H want H.bT.length).1->R (((QD H want H.bT.length).2:Nat):Int) 0 σ'):Yy.c (aW L.p) want σ R:=by
 refine Yy.o ?_;unfold Yy.v;refine Kx h (cG rfl (cI (λG=>h1 G) λG=>aG (h.hd.rS rfl ?_)));have hR:=hR O;have Q:=h.jX;have S:=h.s.a2;refine Ko (a:=bN) (bb:=bN) (λ(x z:Int) w=>∃(j:Nat) (B P:Rg),z=(j:Int)/\x=((QD H want j).2:Int)/\j<=H.bT.length/\HK F σ B w P L (QD H want j).1) (λ_ z _=>H.bT.length-z.toNat) ⟨0,_,_,rfl,rfl,O,HK.start h⟩ ?_;rintro(x:Int) (z:Int) w ⟨j,B,P,rfl,rfl,hj,K⟩;refine cI (λC=>?_) λD=>?_
 ·simp only at C;have g:j<H.bT.length:=by omega
  obtain⟨A,r⟩:∃A,(QD H want j).1.bT[j]?=some A:=⟨_,cM (by rw[(WgM H want j).2.2.2];exact g)⟩;obtain⟨Y,E,_,_⟩:=K.h.ar r;have J:=hb j hj;have U:=hb (j+1) O;refine K.h.rA E (cI (λu=>?_) λu=>?_)
  ·rw[EC O H.bT.length hj]at hR;exact hR w K.e (K.fin h)
  ·have d:=UM (H:=H) want j;rw[zA O,r]at d;simp only at d;refine ar O O (LS K.h r E _ (h12 j A g r) λW N h1=>?_);have K1:=K.to N h1 λb _ hb=>hb;have V:(QD H want (j+1)).2=(QD H want j).2+kC A (want-(QD H want j).2):=by rw[d]
   have M:(QD H want (j+1)).1 = {(QD H want j).1.cB j (dT A (QD H want j).1.sp (want-(QD H want j).2)).1 with sp:=(dT A (QD H want j).1.sp (want-(QD H want j).2)).2}:=by rw[d]
   rw[←M]at K1;exact cA (m:=(QD H want (j+1)).2) O O (cA (m:=j+1) O O ⟨⟨j+1,_,_,rfl,rfl,O,K1⟩,O⟩)
 ·have y:j=H.bT.length:=by simp only at D;omega
  subst y;exact hR w K.e (K.fin h)
end Go.Ar
namespace Go.Ar
variable {A:AR}
theorem NR (h:GA A)(hn:A.n<=208)(hlow:∀p,p<16->A.f p=0):(VA (YI A).st).length<=12:=by
 obtain⟨o,_,_⟩:=Up h;have a:(YI A).st.length=A.n:=by rw[o.ga.pg.len,o.kp.n]
 have d:∀p,p<16->(YI A).f p=0:=λp b=>(o.kp.z p).2 (hlow p b);have i:=h.pg.n1;unfold VA;rw[a];have e:List.range (A.n/16)=0::(List.range (A.n/16-1)).map Nat.succ:=by
  rw[←zv];congr 1;omega
 rw[e,qU];have g:gA (YI A).st (16*0) (16*0+16) 2=0:=(Ht O (by rw[a];omega)).2 λp r j m=>by
  have:=d p O;unfold AR.f at this;omega
 rw[g];have:¬(decide (0<0)=true):=by simp
 rw[zA this];refine zI (nh _ _) ?_;rw[za,oK];omega
def qM (tb:List bW)(n room m:Nat):Wd:=⟨tb,Vq n,List.replicate m (fH n room tb),[]⟩
theorem LL {n room:Nat}{tb:List bW}(h1:32<=n)(h2:n<=1024)(h3:n%16=0)(h6:tb.length<=40)(h7:∀c∈tb,c.ok):GA (fH n room tb)/\∀p,(fH n room tb).f p=0:=by
 have g:∀p,(fH n room tb).f p=0:=λp=>by
  show(List.replicate n 0).getD p 0=0;rw[zL,nk];split<;>rfl
 have a:∀{k:Nat} {i:List cH},(List.replicate tb.length ([]:List cH))[k]?=some i->i=[]:=λh=>by
  rw[nk]at h;split at h<;>simp at h;exact h
 have b:∀{k:Nat} {t:fQ},(List.replicate tb.length (⟨0,[]⟩:fQ))[k]?=some t->t.bs=[]:=λh=>by
  rw[nk]at h;split at h<;>simp at h;rw[←h]
 refine⟨⟨⟨by simp[fH],h1,h2,h3,λp=>by rw[g];omega,λp=>by rw[g];simp[fH],λp=>by rw[g];simp[fH,Go.Bu.iK],λp=>by rw[g,g]⟩,h6,by simp[fH],by simp[fH],λk c i d=>?_,λk c i d s m=>?_,λk c i d p=>?_,λp=>?_,λp=>.inr (Nat.zero_le _),by simp[fH],by simp[fH],λk t j=>?_,λk c i t d j=>?_,λk c t d j=>?_⟩,g⟩
 ·have e:=a d.2;subst e;exact⟨h7 c (zE d.1),by simp,by simp⟩
 ·have e:=a d.2;subst e;simp at m
 ·have e:=a d.2;subst e;constructor
  ·intro h;cases h
  ·rintro⟨s,m,_⟩;simp at m
 ·constructor
  ·intro h;cases h
  ·rintro⟨r,hr,_⟩;simp[fH]at hr
 ·have:=b j;rw[this];exact qJ
 ·have:=b j;rw[this];simp
 ·have:=b j;rw[this];simp
theorem Mn {tb:List bW}{n room m:Nat}(h1:32<=n)(h2:n<=1024)(h3:n%16=0)(h6:tb.length<=40)(h7:∀c∈tb,c.ok):WI (qM tb n room m):=by
 obtain⟨w,d⟩:=LL (room:=room) h1 h2 h3 h6 h7;have get:∀{k:Nat} {A:AR},(qM tb n room m).bT[k]?=some A->A=fH n room tb:=λ{k A} h=>by
  have h:(List.replicate m (fH n room tb))[k]?=some A:=h;rw[nk]at h;split at h<;>simp at h;exact h.symm
 have b:∀p,gf (Vq n).st p=0:=λp=>by
  show(List.replicate n 0).getD p 0=0;rw[zL,nk];split<;>rfl
 refine⟨λk A h=>by rw[get h];exact w,λk A h=>?_,λk A h=>by rw[get h];rfl,λk A h p a=>by rw[get h];exact d p,λp a=>(a (b p)).elim,λp k l A B E F h1 h2=>?_,qJ,λp a=>by simp[qM]at a,λk A h j y x=>?_,λk A h r g=>?_⟩
 ·rw[get h];exact⟨by simp[qM,Vq,fH],λp a=>(a (d p)).elim,λp a=>by rw[d p]at a;omega,λp=>by show gf (Vq n).st p<=2;rw[b];omega⟩
 ·rw[get E]at h1;exact(h1 (d p)).elim
 ·rw[get h]at x;obtain⟨c,C,u,z⟩:=x;have e:C=[]:=by
   have h2:=u.2;simp only[fH]at h2;rw[nk]at h2;split at h2<;>simp at h2;exact h2
  subst e;obtain⟨G,s,i,D,_⟩:=(Ue (w.cC _ _ _ u)).1 z;simp at D
 ·rw[get h]at g;simp[fH]at g
end Go.Ar
namespace Go.Ar
open Go.Vc (bV dF cT)
variable {H H':Hw}{held:List Pc}{s0:Sp}{t k j:Nat}{g:Th}{A:AR}{c:bW}
theorem SW {tb:List bW}{cf:Cf}(h1:32<=cf.aF)(h2:cf.aF<=1024)(h3:cf.aF%16=0)(h4:1<=cf.iq)(h6:tb.length<=40)(h7:∀c∈tb,c.ok):HI (Uf tb cf) [] (Vq cf.aF):=by
 have B:=Mn (tb:=tb) (n:=cf.aF) (room:=cf.room) (m:=cf.iq) h1 h2 h3 h6 h7;have d:∀g∈(Uf tb cf).bQ,g=⟨List.replicate tb.length iv,[],none⟩:=λg i=>(yI.1 i).2;have r:∀k,(List.replicate tb.length iv).getD k iv=iv:=λk=>by
  rw[zL,nk];split<;>rfl
 refine⟨B,gJ.refl _,λk x=>?_,qJ,λe z=>by simp[Uf]at z,λg i s a j=>?_,λg i=>?_,h7,?_,?_⟩
 ·have w:∀(n:Nat) (f:Th->Nat) (g:Th),f g=0->((List.replicate n g).map f).sum=0:=λn f g h=>by
   rw[sM,h]
   induction n with
   | zero=>rfl
   | succ n ih=>rw[wh,zj,ih]
  have u:gW ⟨List.replicate tb.length iv,[],none⟩ k x=0:=by
   unfold gW mD;split
   ·simp only[r];rfl
   ·rfl
  have:rh (Uf tb cf) k x=0:=by
   unfold rh;show mP [] k x+((List.replicate cf.threads (⟨List.replicate tb.length iv,[],none⟩:Th)).map λg=>gW g k x).sum=0;rw[w _ _ _ u];rfl
  rw[this,QO];rintro⟨p,j,_⟩;simp at j
 ·rw[d g i]at j;cases j
 ·rw[d g i];refine⟨by simp[Uf],λl A=>?_,λb y=>by simp at y,by simp,by unfold iB;rfl⟩;rw[(yI.1 A).2];exact⟨fR.nil,by simp[iv]⟩
 ·show 1<=(List.replicate cf.iq (fH cf.aF cf.room tb)).length;simpa using h4
 ·show(List.replicate cf.aF 0).length=cf.aF;simp
def KL (H H':Hw):Prop:=∀e∈H.live,∀w:Nat,e.1<=((8*w:Nat):Int)->((8*w:Nat):Int)<e.1+e.2.2.1->H'.sp.wd w=H.sp.wd w
theorem HI.yW (h:HI H held s0):WI ⟨H.tb,s0,H.bT,held⟩:=h.wi
theorem HI.mapped (h:HI H held s0){p:Pc}(hp:p∈held){x:Nat}(h1:p.addr<=x)(h2:x<p.addr+p.size):gf H.sp.st (x/256)≠0:=by
 obtain⟨A,a,_⟩:=h.wi.hf p hp;have b:=h.wi.nX hp a h1 h2;have:=(h.wi.ow _ A a).own (x/256) O;intro hz;exact this ((h.kZ.z _).1 hz)
theorem HI.kl (h:HI H held s0)(k:KS H.sp H'.sp):KL H H':=λe a w j i=>by
 obtain⟨_,p,b,_,_,m,g,_⟩:=h.lv e a;have d:=h.mapped b (x:=8*w) O O;exact(k.k _ d).2 w O
theorem KL.refl (H:Hw):KL H H:=λ_ _ _ _ _=>rfl
theorem KL.trans {H1 H2 H3:Hw}(a:KL H1 H2)(b:KL H2 H3)(hl:∀e∈H1.live,e∈H2.live):KL H1 H3:=λe d w i g=>(b e (hl e d) w i g).trans (a e d w i g)
structure iG (H H':Hw):Prop where
 hi:∃held s0,HI H' held s0
 live:H'.live=H.live
 bQ:H'.bQ=H.bQ
 kp:Z8 H' H
 kl:KL H H'
theorem iG.refl (h:HI H held s0):iG H H:=⟨⟨_,_,h⟩,rfl,rfl,Z8.refl _,KL.refl _⟩
theorem iG.trans {H1 H2 H3:Hw}(a:iG H1 H2)(b:iG H2 H3):iG H1 H3:=⟨b.hi,b.live.trans a.live,b.bQ.trans a.bQ,a.kp.trans b.kp,a.kl.trans b.kl λe d=>by rw[a.live];exact d⟩
theorem HI.n (h:HI H held s0)(hk:H.bT[k]?=some A):A.n=H.cf.aF:=by
 have:=(h.wi.ow k A hk).l;have a:=h.kZ.l;have b:=h.sl;simp only at this;omega
theorem HI.lr (h:HI H held s0)(h208:H.cf.aF<=208)(hk:H.bT[k]?=some A):(VA (YI A).st).length<=12:=NR (h.wi.ga k A hk) (by rw[h.n hk];exact h208) (h.wi.low k A hk)
theorem IE (h:HI H held s0)(hk:H.bT[k]?=some A){B:AR}{s0' sp':Sp}(wi:WI ⟨H.tb,s0',H.bT.set k B,held⟩)(hw:∀w,B.f (w/32)=1->sp'.wd w=H.sp.wd w)(hoth:∀w,A.f (w/32)=0->B.f (w/32)=0->sp'.wd w=H.sp.wd w):KL H {H.cB k B with sp:=sp'}:=by
 intro e he w h1 h2;obtain⟨_,p,d,_,_,s,r,_⟩:=h.lv e he;obtain⟨C,j,_⟩:=h.wi.hf p d;obtain⟨D,a,_⟩:=wi.hf p d;have m:=h.wi.nX d j (x:=8*w) O O;have i:=wi.nX d a (x:=8*w) O O;rw[show 8*w/256=w/32 by omega]at m i;have b:=(cQ.1 hk).1;by_cases hpk:p.k=k
 ·have g:(H.bT.set k B)[k]?=some B:=zM b;have a:(H.bT.set k B)[p.k]?=some D:=a;rw[hpk,g]at a;cases a;exact hw w i
 ·refine hoth w ?_ ?_
  ·apply Classical.byContradiction;intro hn;exact hpk (h.wi.one (w/32) p.k k C A j hk O hn)
  ·have g:(H.bT.set k B)[k]?=some B:=zM b;apply Classical.byContradiction;intro hn;exact hpk (wi.one (w/32) p.k k D B a g O hn)
theorem PZ (h:HI H held s0)(hk:H.bT[k]?=some A)(want:Int):iG H {H.cB k (dT A H.sp want).1 with sp:=(dT A H.sp want).2}:=by
 have ga:=h.wi.ga k A hk;obtain⟨j,g,x⟩:=h.kZ.dT A want;obtain⟨s,B,C,y⟩:=Ot ga (h.wi.ow k A hk) want;have wi:=h.wi.jl hk s B y C;rw[show(Wd.mk H.tb s0 H.bT held).sp=s0 from rfl,←j]at wi;have r:=h.tn wi g x (by simp[Wd.put]) (λ_ _=>Iff.rfl) (λp m _=>m);have key:KL H {H.cB k (dT A H.sp want).1 with sp:=(dT A H.sp want).2}:=by
  by_cases h0:want<0
  ·have:dT A H.sp want=(A,H.sp):=by unfold dT;rw[zB h0]
   rw[this];exact λ_ _ _ _ _=>rfl
  ·obtain⟨z,_⟩:=E9 ga (h.wi.ow k A hk) (want:=want) O;have d:=Up ga;have a:∀w,¬iM (V0 A want) (w/32)->(dT A H.sp want).2.wd w=H.sp.wd w:=λw e=>by
    rw[g.w,z.wd w e,h.kZ.w]
   refine IE h hk wi (λw e=>a w λb=>?_) λw u _=>a w λb=>?_
   ·have:=(z.i _ b).2.1;rw[j]at e;simp only at this;omega
   ·have:=(z.i _ b).1;have:=(d.1.kp.z (w/32)).2 u;omega
 exact⟨⟨_,_,r⟩,rfl,rfl,Z9 _ _ _ _,key⟩
theorem Wmm (h:HI H held s0)(hk:H.bT[k]?=some A):iG H {H.cB k (eJ A H.sp).1 with sp:=(eJ A H.sp).2}:=by
 have ga:=h.wi.ga k A hk;obtain⟨g,e,r⟩:=h.kZ.eJ A;have z:=S6 ga (h.wi.ow k A hk);have wi:=h.wi.jl hk z.st z.runs (λj y=>by unfold eZ Cl;rw[z.st.tb,z.cC]) z.cE;rw[show(Wd.mk H.tb s0 H.bT held).sp=s0 from rfl,←g]at wi;have m:=h.tn wi e r (by simp[Wd.put]) (λ_ _=>Iff.rfl) (λp i _=>i);have a:∀w,w/32/16∉Kf A.st 0->(eJ A H.sp).2.wd w=H.sp.wd w:=λw d=>by
  rw[e.w,z.wd w d,h.kZ.w]
 have key:KL H {H.cB k (eJ A H.sp).1 with sp:=(eJ A H.sp).2}:=by
  refine IE h hk wi (λw d=>a w λb=>?_) λw s _=>a w λb=>?_
  ·rw[g,z.f,zB b]at d;omega
  ·have:=((JR ga).1 b).2 (w/32) rfl;omega
 exact⟨⟨_,_,m⟩,rfl,rfl,Z9 _ _ _ _,key⟩
theorem SO (h:HI H held s0)(hk:H.bT[k]?=some A):iG H (H.cB k (U7 A)):=by
 have wi:=h.wi.tick hk;have a:=h.tn (sp':=H.sp) wi h.kZ rfl (by simp[Wd.put]) (Se _) (λp b _=>(zH.1 b).1);exact⟨⟨_,_,a⟩,rfl,rfl,Z9 _ _ _ H.sp,λ_ _ _ _ _=>rfl⟩
theorem Sk (h:HI H held s0)(n:Nat):iG H (UB H n):=by
 induction n with
 | zero=>exact iG.refl h
 | succ n ih=>
  rw[Hc];split
  ·rename_i A hA;obtain⟨a,d,b⟩:=ih.hi;exact ih.trans (SO b hA)
  ·exact ih
theorem OB (st:List Nat)(k:Nat):(Kf st k).length<=st.length/16:=by
 unfold Kf;exact zI (nh _ _) aA
theorem LN (h:HI H held s0)(n:Nat):iG H (QG H n).1/\(QG H n).2<=n*64:=by
 induction n with
 | zero=>exact⟨iG.refl h,zD _⟩
 | succ n a=>
  obtain⟨a,i⟩:=a;rw[UX];split
  ·rename_i A hA;obtain⟨b,e,d⟩:=a.hi;refine⟨a.trans (Wmm d hA),?_⟩;have ga:=d.wi.ga n A hA;have j:=OB A.st 0;have g:=ga.pg.len;have m:=ga.pg.n2;simp only[vu];omega
  ·exact⟨a,O⟩
theorem Bo (st:List Nat)(e:Nat):∀(f p:Nat),(QX st e f p).length<=f/\∀r∈QX st e f p,r.2<=e-p
 | 0,p=>⟨by simp[QX],by simp[QX]⟩
 | f+1,p=>by
  unfold QX;split
  ·exact⟨by simp,by simp⟩
  ·split
   ·obtain⟨h1,h2⟩:=Bo st e f (p+1);exact⟨O,λr a=>by have:=h2 r a;omega⟩
   ·obtain⟨h1,h2⟩:=Bo st e f (p+gg st p (e-p)+1);refine⟨by simp;omega,λr a=>?_⟩;rcases zQ.1 a with rfl|a
    ·have:gg st p (e-p)<=e-p:=by
      unfold gg;refine zI (List.Sublist.length_le (List.takeWhile_sublist _)) ?_;rw[zO];omega
     exact this
    ·have:=h2 r a;omega
theorem iY {α:Type}(f:α->Nat)(c:Nat):∀l:List α,(∀x∈l,f x<=c)->(l.map f).sum<=l.length*c
 | [],_=>by simp
 | x::l,h=>by
  have h1:=iY f c l λy a=>h y (by simp[a]);have b:=h x aA;rw[zJ,zj,zP,zl];omega
theorem Α (h:GA A)(want:Int):kC A want<=17408:=by
 unfold kC;split
 ·omega
 ·have i:=(Up h).1;have u:(YI A).st.length<=1024:=by rw[i.ga.pg.len];exact i.ga.pg.n2
  unfold V0 Hq;have a:=Bs want 0 ((eO (YI A).st).flatMap (KM (YI A).st));have d:∀x,(KM (YI A).st x).length<=17/\∀r∈KM (YI A).st x,r.2<=16:=λx=>by
   have:=Bo (YI A).st (16*x+16) 17 (16*x);exact⟨this.1,λr b=>by have:=this.2 r b;omega⟩
  have g:((eO (YI A).st).flatMap (KM (YI A).st)).length<=64*17:=by
   rw[List.length_flatMap];refine zI (iY (λx=>(KM (YI A).st x).length) 17 _ λx _=>(d x).1) ?_;have s:=(Eh (YI A).st).length_eq;have m:=nh (λh=>decide (0<gA (YI A).st (16*h) (16*h+16) 2)) (List.range ((YI A).st.length/16));rw[oK]at m;have:(eO (YI A).st).length<=64:=by omega
   omega
  have e:∀r∈(eO (YI A).st).flatMap (KM (YI A).st),r.2<=16:=λr b=>by
   obtain⟨x,_,j⟩:=qX.1 b;exact(d x).2 r j
  have w:=iY (λr:Nat×Nat=>r.2) 16 (gM want 0 ((eO (YI A).st).flatMap (KM (YI A).st))) λr b=>e r (a.subset b);have p:=a.length_le;omega
theorem T2 (h:HI H held s0)(want:Int)(n:Nat):iG H (QD H want n).1/\(QD H want n).2<=n*17408:=by
 induction n with
 | zero=>exact⟨iG.refl h,zD _⟩
 | succ n a=>
  obtain⟨a,e⟩:=a;rw[UM];split
  ·exact⟨a,zI e (lN _ (Nat.le_succ n))⟩
  ·split
   ·rename_i A hA;obtain⟨b,g,d⟩:=a.hi;refine⟨a.trans (PZ d hA _),?_⟩;have:=Α (d.wi.ga n A hA) (want-((QD H want n).2:Int));simp only;omega
   ·exact⟨a,zI e (lN _ (Nat.le_succ n))⟩
theorem WI.wd {W:Wd}(h:WI W)(f:Nat->Int):WI {W with sp:={W.sp with wd:=f}}:=
 ⟨h.ga,λk A hk=>⟨(h.ow k A hk).l,(h.ow k A hk).own,(h.ow k A hk).cl,(h.ow k A hk).le⟩,h.tb,h.low,h.own,h.one,h.hk,h.hf,h.ht,h.hr⟩
theorem NU {sp:Sp}{x:Int}(h:j6 sp x=0):0<=x/\x%8=0/\gf sp.st (x.toNat/256)≠0:=by
 unfold j6 at h;split at h
 ·cases h
 ·split at h
  ·cases h
  ·exact⟨O,O,by assumption⟩
theorem WjP (sp:Sp)(x v:Int):(UU sp x v).st.length=sp.st.length/\(∀p,gf (UU sp x v).st p=0↔gf sp.st p=0)/\∀w,(UU sp x v).wd w=if j6 sp x=0/\w=x.toNat/8 then v else sp.wd w:=by
 unfold UU;split
 ·rename_i h0;have a:=NU h0;refine⟨by simp[oe],λp=>?_,λw=>?_⟩
  ·show gf (sp.st.set (x.toNat/8/32) 2) p=0↔_;have b:x.toNat/8/32=x.toNat/256:=by omega
   rw[b];unfold gf at a ⊢;rw[zL]at a ⊢;rw[zL,oc];split
   ·rename_i he;split
    ·rw[←he];simp only[pN];exact⟨λh=>O,λh=>(a.2.2 h).elim⟩
    ·rename_i hl;rw[zY O]at a;exact(a.2.2 rfl).elim
   ·exact Iff.rfl
  ·show(if w=x.toNat/8 then v else sp.wd w)=_
   by_cases hw:w=x.toNat/8
   ·rw[zB hw,zB ⟨h0,hw⟩]
   ·rw[zA hw,zA λh=>hw h.2]
 ·exact⟨rfl,λ_=>Iff.rfl,λw=>by rw[zA λh=>by have:=h.1;contradiction]⟩
theorem HI.write (h:HI H held s0)(x v:Int):HI {H with sp:=UU H.sp x v} held {s0 with wd:=(UU H.sp x v).wd}:=by
 obtain⟨a,b,_⟩:=WjP H.sp x v;exact⟨h.wi.wd _,⟨a.trans h.kZ.l,λp=>(b p).trans (h.kZ.z p),rfl⟩,h.cn,h.lk,h.lv,h.gv,h.th,h.ok,h.a1,a.trans h.sl⟩
end Go.Ar
namespace Go.Ar
open Go Go.Vc Go.Proofs
variable {σ u w w':Hp}{F B P Q:Rg}{L:dS}{H H':Hw}{t n:Nat}{g:Th}
end Go.Ar
namespace Go.Proofs
open Go.Vc
set_option maxRecDepth 100000
def WY.h:Hn:=.q .o2 (.q (.q (.cV (.seq [.op,.op,.op,.dA false 2 [.op,.op]])) .aJ) (.q .o1 (.q .o1 (.q (.k (.loop [(4,.one .s),(5,.I)] (.q (.q .o2 (.c .l .l)) (.k (.q .o7 .o6))))) (.q .o6 (.q .o1 (.q (.q .o1 (.k (.loop [(6,.one .s),(7,.I)] (.q (.q .o4 (.c .l .l)) (.q (.k (.q (.cV (.hO true [] [(70,.one .b)] (.tk [0,1,2,3,4,5] (.split 43 (.tk [6,7,8,9,10,11,12,13,14,15,16,17,18,19,20,21,22,23,24,25,26,27,28,29,30,31,32] (.done)) (.tk [6,7,8,9,10,11,12,13,14,15,16,17,18,19] (.split 57 (.tk [20,21,22,23,24,25,26,27,28,29,30,31,32] (.done)) (.tk [20,21,22,23,25,26,27,28,29] (.all [(24,.all [(30,.take 31 (.take 32 (.done)))])])))))))) (.c .o8 .l))) .o3))))) (.q .o3 .l))))))))
def WY.v (a:Int)(b:Hp)(c:Sl->Int->Hp->Prop):Prop:=bY (λd e=>If d (c ⟨none,0,0⟩ 1 e) (W7 [.s,bN] (λf=>f ⟨none,0,0⟩ 8 e) λg (h:Sl) (i:Int) j=>If (i<512) (Xn.c i a j λk l m n=>aV #[.I k,.I l,.I m] 31 n λo p=>App h 3 24 31 [.I 0,.I 0,.I 0] ⟨some o,1,1⟩ p λq r=>X8.c i a r λs t=>bL (i+s) λu=>g q u t) (Xn.c 512 a j λv w x y=>aV #[.I v,.I w,.I x] 31 y λz aa=>App h 3 24 31 [.I 0,.I 0,.I 0] ⟨some z,1,1⟩ aa λab ac=>W7 [.s,bN] (λad=>ad ⟨none,0,0⟩ 0 ac) λae (af:Sl) (ag:Int) ah=>If (ag<((ab.len:Nat):Int)) (Jn [.b] (λ(ai:Bool) aj=>If ai (Ix ab.a ab.len ag 3 λak=>aQ ak 0 aj λal=>aQ ak 1 aj λam=>aQ ak 2 aj λan=>aV #[.I al,.I am,.I an] 31 aj λao ap=>App af 3 24 31 [.I 0,.I 0,.I 0] ⟨some ao,1,1⟩ ap λaq ar=>bL (ag+1) λau=>ae aq au ar) (bL (ag+1) λav=>ae af av aj)) λaw=>dU ah λax=>bL (((ab.len:Nat):Int)-1) λay=>If (ag==ay) (aw true ah) (Ix ab.a ab.len ag 3 λaz=>aS ax az 1 λa0=>bL (ag+1) λa1=>Ix ab.a ab.len a1 3 λa2=>aS ax a2 1 λa3=>If (a0 != a3) (aw true ah) (Ix ab.a ab.len ag 3 λa4=>aS ax a4 0 λa5=>aS ax a4 1 λa6=>aS ax a4 2 λa7=>bL (ag+1) λa8=>Ix ab.a ab.len a8 3 λa9=>aS ax a9 0 λba=>aS ax a9 1 λbb=>aS ax a9 2 λbc=>WS.c a5 a6 a7 ah λbd be=>And (ax be) <|
 WS.c ba bb bc be λbf bg=>And (ax bg) <| aw (bd != bf) bg))) (c af 0 ah)))) λbh=>If (a<2) (bh true b) (bh (decide (a>16)) b)
theorem WY.o {a b c}(d:WY.v a b c):WY.c a b c:=Wa Tryz.func16 (x:=WY.h) (R0 d)
def WS.h:Hn:=.q .o2 (.q .o1 (.q (.k (.loop [(3,.I)] (.q (.q .o9 (.c .l .l)) (.k .o3)))) .aL))
def WS.v (a b c:Int)(d:Hp)(e:aN):Prop:=aV #[.I a,.I b,.I c] 31 d λf g=>W7 [bN] (λh=>h 0 g) λi (j:Int) k=>bL (j+1) λl=>aQ f 0 k λm=>bL (l*m) λn=>aQ f 1 k λo=>bL (o*256) λp=>If (n<=p) (bL (j+1) λq=>i q k) (e j k)
theorem WS.o {a b c d e}(f:WS.v a b c d e):WS.c a b c d e:=Wa Tryz.func18 (x:=WS.h) (R0 f)
def Xn.h:Hn:=.q .o1 (.q .o8 (.q (.q .o1 (.k (.loop [(6,.I)] (.q (.q .o2 (.c .l .l)) (.q (.k (.q (.cV (.seq [.op,.op,.op,.op,.op,.dA true 9 (RI.ops 9)])) (.c .o3 .l))) .o3))))) .aL))
def Xn.v (a b:Int)(c:Hp)(d:Int->Int->Int->Hp->Prop):Prop:=aV #[.I 0,.I 0,.I 0] 31 c λe f=>Nz a<|bL ((512:Int).tdiv a) λg=>aV #[.I 0,.I 0,.I 0] 31 f λh i=>aR h 0 (.I a) i λj=>aR h 1 (.I 4) j λk=>aR h 2 (.I (if 32<(if 2>g then 2 else g)then 32 else(if 2>g then 2 else g))) k λl=>W7 [bN] (λm=>m 4 l) λn (o:Int) p=>If (o≥1) (bL (o*256) λq=>bY (λr s=>If r (aR h 1 (.I o) s λt=>bL (o-1) λu=>n u t) (bL (o-1) λv=>n v s)) λw=>If (q≥a) (bL (o*256) λx=>Nz a <| bL (b*(x.tmod a)) λy=>bL (o*256) λz=>w (decide (y<=z)) p) (w false p)) (aQ h 0 p λaa=>aQ h 1 p λab=>aQ h 2 p λac=>aR e 0 (.I aa) p λad=>aR e 1 (.I ab) ad λae=>aR e 2 (.I ac) ae λaf=>aQ e 0 af λag=>aQ e 1 af λah=>aQ e 2 af λai=>d ag ah ai af)
theorem Xn.o {a b c d}(e:Xn.v a b c d):Xn.c a b c d:=Wa Tryz.func47 (x:=Xn.h) (R0 e)
def X8.h:Hn:=.q .o1 (.q .o1 (.q (.k (.loop [(5,.I)] (.q (.q .o6 (.c .l .l)) (.k .o3)))) .aL))
def X8.v (a b:Int)(c:Hp)(d:aN):Prop:=W7 [bN] (λe=>e 8 c) λf (g:Int) h=>bL (2*g) λi=>Nz b<|bL (a.tdiv b) λj=>If (i<=j) (bL (2*g) λk=>f k h) (d g h)
theorem X8.o {a b c d}(e:X8.v a b c d):X8.c a b c d:=Wa Tryz.func48 (x:=X8.h) (R0 e)
end Go.Proofs
namespace Go.Ar
open Go Go.Vc Go.Proofs
variable {σ w:Hp}
abbrev T3:=Int×Int×Int
def v3 (x:T3):List Value:=[.int .i64 x.1,.int .i64 x.2.1,.int .i64 x.2.2]
def kv (l:List T3):List Value:=l.flatMap v3
theorem Uz (l:List T3):(kv l).length=l.length*3:=by
 induction l with
 | nil=>rfl
 | cons x l ih=>simp only[kv,mS,zK,v3,zP,ma]at *;omega
theorem DZ (l:List T3)(x:T3):kv (l++[x])=kv l++v3 x:=by simp[kv]
theorem Gg:∀{l:List T3} {i:Nat} {x:T3},l[i]?=some x->∀{d:Nat},d<3->(kv l)[i*3+d]?=(v3 x)[d]?
 | [],_,_,h,_,_=>by simp at h
 | y::l,0,x,h,d,hd=>by
  simp at h;subst h;have e:kv (y::l)=v3 y++kv l:=rfl;rw[e,zd (by simp[v3];omega)];congr 1;omega
 | y::l,i+1,x,h,d,hd=>by
  have e:kv (y::l)=v3 y++kv l:=rfl;have a:(v3 y).length=3:=rfl;rw[e,zo O,a,show(i+1)*3+d-3=i*3+d by omega];exact Gg (by simpa using h) hd
theorem JZ {Q:Rg}{s:Sl}{l:List T3}(h:Own Q σ s 3 (kv l)):gH σ s l:=by
 have m:=h.1;rw[Uz]at m;refine⟨O,λi x y z d=>?_⟩;obtain⟨b,e,g⟩:=h.cell (j:=i*3+0) (v:=.int .i64 x) ((Gg d O).trans rfl);obtain⟨p,a,u⟩:=h.cell (j:=i*3+1) (v:=.int .i64 y) ((Gg d O).trans rfl);rw[e]at a;cases a;obtain⟨p,a,r⟩:=h.cell (j:=i*3+2) (v:=.int .i64 z) ((Gg d O).trans rfl);rw[e]at a;cases a;refine⟨b,0,e,QQ g,?_,?_,?_⟩
 ·rw[show 0+i*3=i*3+0 by omega];exact g
 ·rw[show 0+i*3+1=i*3+1 by omega];exact u
 ·rw[show 0+i*3+2=i*3+2 by omega];exact r
def uh (s w:Int)(n:Nat):Int:=([4,3,2,1].take n).foldl (λ(r p:Int)=>if s<=p*256/\w*((p*256)%s)<=p*256 then p else r) 4
def Ab (s:Int):Int:=min 32 (max 2 (512/s))
def lK (s w:Int):T3:=(s,uh s w 4,Ab s)
def wK:Nat->Int->Int->Int
 | 0,d,_=>d
 | n+1,d,q=>if 2*d<=q then wK n (2*d) q else d
def xF (s w:Int):Int:=wK 8 8 (s/w)
def nj (x:T3):Int:=x.2.1*256/x.1
theorem Nj (s w:Int)(n:Nat):1<=uh s w n/\uh s w n<=4:=by
 have key:∀(l:List Int) (r:Int),(∀p∈l,1<=p/\p<=4)->1<=r/\r<=4->1<=l.foldl (λ(r p:Int)=>if s<=p*256/\w*((p*256)%s)<=p*256 then p else r) r/\l.foldl (λ(r p:Int)=>if s<=p*256/\w*((p*256)%s)<=p*256 then p else r) r<=4:=by
  intro l
  induction l with
  | nil=>intro r _ h;exact h
  | cons p l ih=>
   intro r hl hr;rw[lg];refine ih _ (λq a=>hl q (kM _ a)) ?_;split
   ·exact hl p lf
   ·exact hr
 refine key _ _ (λp b=>?_) O;have:=mK b;simp at this;omega
theorem JV (s w:Int)(h1:8<=s)(h2:s<=512)(hw1:2<=w)(hw2:w<=16){R:Int->Int->Int->Hp->Prop}(hR:∀σ',bO σ σ'->R (lK s w).1 (lK s w).2.1 (lK s w).2.2 σ'):Xn.c s w σ R:=by
 refine Xn.o ?_;unfold Xn.v;have N:1<=512/s/\512/s<=64:=⟨by rw[Int.le_ediv_iff_mul_le O];omega,Int.ediv_le_of_le_mul O O⟩;refine nw (cs:=[.int .i64 0,.int .i64 0,.int .i64 0]) λv hz e Q=>nz O (ar (by rw[YK O];omega) (by rw[YK O];omega) ?_);rw[YK O];refine nw (cs:=[.int .i64 0,.int .i64 0,.int .i64 0]) λv1 S K B=>B.s1 aA λv2 o2 y=>y.s1 aA λZ o3 p=>p.s1 aA λv4 o4 H=>?_;have d:σ.size≠v.size:=by omega
 have D:=Ws o4 (Ws o3 (Ws o2 (K.bZ Q id) d) d) d;have V:bO σ v4:=((((e.trans K).only o2 (.inr O)).only o3 (.inr O)).only o4 (.inr O));have m:(if 32<(if 2>512/s then 2 else 512/s)then 32 else(if 2>512/s then 2 else 512/s))=Ab s:=by unfold Ab;omega
 rw[m]at H;refine ZU (a:=bN) (λ(z:Int) u=>∃n:Nat,n<=4/\z=4-(n:Int)/\bO σ u/\bX u σ.size [.int .i64 0,.int .i64 0,.int .i64 0]/\bX u v.size [.int .i64 s,.int .i64 (uh s w n),.int .i64 (Ab s)]) (λz _=>z.toNat) ⟨0,O,rfl,V,D,H⟩ ?_;rintro(z:Int) u ⟨n,hn,rfl,eu,hu,bu⟩;refine cI (λab=>?_) λaa=>?_
 ·have M:n<4:=by omega
  have b:uh s w (n+1)=if s<=(4-(n:Int))*256/\w*(((4-(n:Int))*256)%s)<=(4-(n:Int))*256 then 4-(n:Int)else uh s w n:=by
   have X:([4,3,2,1]:List Int)[n]?=some (4-(n:Int)):=by
    rcases(show n=0\/n=1\/n=2\/n=3 by omega)with rfl|rfl|rfl|rfl<;>rfl
   unfold uh;rw[zg,X,mN];rfl
  refine ar O O ?_;refine UC (λr F=>F=u/\r=decide (s<=(4-(n:Int))*256/\w*(((4-(n:Int))*256)%s)<=(4-(n:Int))*256)) (λr F ⟨C,x⟩=>?_) λJ G=>?_
  ·subst C;by_cases hc:s<=(4-(n:Int))*256/\w*(((4-(n:Int))*256)%s)<=(4-(n:Int))*256
   ·rw[zW hc]at x;rw[zB hc]at b;refine cJ x (bu.s1 aA λP o1 E=>ar O O ⟨⟨n+1,O,O,eu.only o1 (.inr O),Ws o1 hu d,by rw[b];exact E⟩,O⟩)
   ·rw[zh hc]at x;rw[zA hc]at b;exact cG x (ar O O ⟨⟨n+1,O,O,eu,hu,by rw[b];exact bu⟩,O⟩)
  ·have j:=Int.emod_nonneg ((4-(n:Int))*256) (show s≠0 by omega);have U:=Int.emod_lt_of_pos ((4-(n:Int))*256) (show 0<s by omega);have L:w*(((4-(n:Int))*256)%s)<=16*512:=Int.mul_le_mul hw2 O j O;have Y:0<=w*(((4-(n:Int))*256)%s):=Int.mul_nonneg O j;refine cI (λh1=>ar O O (nz O ?_)) λh1=>G _ _ ⟨rfl,(zh λg=>h1 g.1).symm⟩;rw[Q9 O];refine ar O O (ar O O (G _ _ ⟨rfl,?_⟩));rw[decide_eq_decide];exact⟨λg=>⟨h1,g⟩,λg=>g.2⟩
 ·have A:n=4:=by omega
  subst A;refine bu.rI rfl (bu.rI rfl (bu.rI rfl (hu.s1 aA λP o1 E=>E.s1 aA λu2 o2 y=>y.s1 aA λW o3 p=>p.rI rfl (p.rI rfl (p.rI rfl (hR W ?_))))));exact((eu.only o1 (.inr O)).only o2 (.inr O)).only o3 (.inr O)
theorem WkP (s w:Int)(h1:8<=s)(h2:s<=512)(hw1:2<=w){R:aN}(hR:8<=xF s w->xF s w<=256->R (xF s w) σ):X8.c s w σ R:=by
 refine X8.o ?_;unfold X8.v;have g:0<=s/w/\s/w<=256:=⟨Int.ediv_nonneg O O,by
  have:s/w<=s/2:=by
   apply Int.le_ediv_of_mul_le O;have:=Int.ediv_mul_le s (show w≠0 by omega);have j:s/w*2<=s/w*w:=Int.mul_le_mul_of_nonneg_left hw1 (Int.ediv_nonneg O O);omega
  omega⟩
 refine ZU (a:=bN) (λ(d:Int) u=>u=σ/\∃n:Nat,wK n d (s/w)=xF s w/\8<=d/\d<=256/\512<=d*2^n) (λd _=>1000-d.toNat) ⟨rfl,8,rfl,O,O,by decide⟩ ?_;rintro(d:Int) u ⟨rfl,n,hst,hd1,hd2,hdn⟩;refine ar O O (nz O (ar (by rw[YK O];omega) (by rw[YK O];omega) ?_));rw[YK O];cases n with
 | zero=>simp at hdn;omega
 | succ n=>
  refine cI (λe=>ar O O ⟨⟨rfl,n,?_,O,O,?_⟩,O⟩) λb=>?_
  ·rw[wK,zB e]at hst;exact hst
  ·rw[Int.pow_succ]at hdn;have:2*d*2^n=d*(2^n*2):=by rw[Int.mul_comm 2 d,Int.mul_assoc,Int.mul_comm 2 (2^n)]
   omega
  ·rw[wK,zA b]at hst;rw[←hst]at hR;exact hR hd1 hd2
theorem FF (x:T3)(h1:8<=x.1)(h2:x.1<=512)(h3:1<=x.2.1)(h4:x.2.1<=4){R:aN}(hR:∀σ',bO σ σ'->R (nj x) σ'):WS.c x.1 x.2.1 x.2.2 σ R:=by
 refine WS.o ?_;unfold WS.v;refine nw (cs:=[.int .i64 x.1,.int .i64 x.2.1,.int .i64 x.2.2]) λv w e m=>?_;refine ZU (a:=bN) (λ(n:Int) u=>bO σ u/\bX u σ.size [.int .i64 x.1,.int .i64 x.2.1,.int .i64 x.2.2]/\0<=n/\n<=128/\n*x.1<=x.2.1*256) (λn _=>1000-n.toNat) ⟨e,m,O,O,O⟩ ?_;rintro(n:Int) u ⟨eu,bu,hn0,hn1,hn⟩;have r:(n+1)*x.1<=129*512:=Int.mul_le_mul O h2 O O;have g:0<=(n+1)*x.1:=Int.mul_nonneg O O;refine ar O O (bu.rI rfl (ar O O (bu.rI rfl (ar O O ?_))));refine cI (λb=>ar O O ⟨⟨eu,bu,O,?_,b⟩,O⟩) λj=>?_
 ·have:(n+1)*8<=(n+1)*x.1:=Int.mul_le_mul_of_nonneg_left h1 O;omega
 ·have:nj x=n:=by
   unfold nj;have p:n<=x.2.1*256/x.1:=(Int.le_ediv_iff_mul_le O).2 hn;have s:x.2.1*256/x.1<n+1:=(Int.ediv_lt_iff_lt_mul O).2 O;omega
  have d:=hR u eu;rw[this]at d;exact d
def iA:Nat->Int->Int->List T3
 | 0,_,_=>[]
 | n+1,s,w=>if s<512 then lK s w::iA n (s+xF s w) w else[]
def allM (w:Int):List T3:=iA 64 8 w++[lK 512 w]
def p7 (l:List T3)(i:Nat):Bool:=i==l.length-1||(match l[i]?,l[i+1]? with
 | some x,some y=>x.2.1 != y.2.1||nj x != nj y
 | _,_=>false)
def mn (l:List T3)(n:Nat):List T3:=(List.range n).filterMap λi=>if p7 l i then l[i]? else none
def qO (w:Int):List T3:=mn (allM w) (allM w).length
def uu (x:T3):Prop:=8<=x.1/\x.1<=512/\1<=x.2.1/\x.2.1<=4
theorem JH (s w:Int)(h1:8<=s)(h2:s<=512):uu (lK s w):=⟨h1,h2,Nj s w 4⟩
theorem tU {Q:Rg}{s:Sl}{l:List T3}{e1 e2:Nat}(ho:Own Q σ s 3 (kv l))(hQ:∀b,σ.size<=b->Q b)(hl:l.length<=1000)(x:T3){K:Sl->Hp->Prop}(hK:∀s' σ',Ext Q σ σ'->Own Q σ' s' 3 (kv (l++[x]))->K s' σ') :
 Nw (.cells #[.int .i64 x.1,.int .i64 x.2.1,.int .i64 x.2.2] e1 (0,0)) σ λn20 v3=>App s 3 24 e2 [.int .i64 0,.int .i64 0,.int .i64 0] ⟨some n20,1,1⟩ v3 K:=by
 have m:s.len=l.length:=by have:=ho.1;rw[Uz]at this;omega
 refine nw (cs:=v3 x) λv p e a=>?_;refine(ho.bK e).app (ys:=v3 x) (λb a=>hQ b O) rfl rfl ?_ (by simp[v3,dN]) ?_ ?_ nA λs' g _ d i _=>hK s' g ?_ ?_
 ·intro j u hu;rw[add_lit,zG,a.cell];exact hu
 ·simp only;have:(s.len+1)*24<=1001*24:=kL O O;omega
 ·simp only;omega
 ·exact(bO.to e).trans (d.sub λb a=>((ho.bK e).jG a).1)
 ·rw[DZ];exact i
theorem WkT (w:Int)(h:w<2\/16<w){R:Sl->Int->Hp->Prop}(hR:R ⟨none,0,0⟩ 1 σ):WY.c w σ R:=by
 refine WY.o ?_;unfold WY.v;exact bY.intro (cI (λa=>cJ rfl hR) λa=>cJ (zW O) hR)
theorem EP (w:Int)(hw1:2<=w)(hw2:w<=16){R:Sl->Int->Hp->Prop}(hR:∀s' σ',bO σ σ'->gH σ' s' (qO w)->R s' 0 σ'):WY.c w σ R:=by
 refine WY.o ?_;unfold WY.v;refine bY.intro (fG O (cG (zh O) ?_));refine Ko (a:=.s) (bb:=bN) (λ(all:Sl) (s:Int) u=>∃(n:Nat) (done:List T3),8<=s/\s<=768/\bO σ u/\Own (λb=>σ.size<=b) u all 3 (kv done)/\done++iA n s w=iA 64 8 w/\512<=s+8*(n:Int)/\(∀x∈done,uu x)/\done.length+n=64) (λ_ s _=>1000-s.toNat) ⟨64,[],O,O,Ext.refl _ _,Own.nil _ _ _,rfl,O,by simp,by simp⟩ ?_;rintro(all:Sl) (s:Int) u ⟨n,done,hs1,hs2,eu,ho,hdone,hn,hok,hlen⟩;refine cI (λV=>?_) λM=>?_
 ·obtain⟨n,rfl⟩:∃m,n=m+1:=⟨n-1,O⟩;refine JV s w O O hw1 hw2 λv2 e2=>?_;refine tU (ho.bK e2) (λb E=>by have:=eu.1;have:=e2.1;omega) O (lK s w) λall1 v4 e4 h4=>?_;have e04:bO σ v4:=Ext.fF (eu.trans e2) e4 λb E=>.inr E;refine WkP s w O O hw1 λd1 d2=>ar O O ⟨⟨n,done++[lK s w],O,O,e04,h4,?_,O,λx B=>?_,by simp;omega⟩,O⟩
  ·rw[←hdone,km]
   congr 1
   conv=>rhs;rw[iA,zB V]
   rfl
  ·rcases zR.1 B with h1|h1
   ·exact hok x h1
   ·rw[zV]at h1;subst h1;exact JH s w O O
 ·have Q:iA n s w=[]:=by
   cases n with
   | zero=>rfl
   | succ n=>rw[iA,zA M]
  rw[Q,j8]at hdone;refine JV 512 w O O hw1 hw2 λv6 e6=>?_;refine tU (ho.bK e6) (λb E=>by have:=eu.1;have:=e6.1;omega) O (lK 512 w) λe v8 e8 J=>?_;have e08:bO σ v8:=Ext.fF (eu.trans e6) e8 λb E=>.inr E;rw[hdone]at J;have p:∀x∈allM w,uu x:=λx B=>by
   rcases zR.1 B with h1|h1
   ·rw[←hdone]at h1;exact hok x h1
   ·rw[zV]at h1;subst h1;exact JH 512 w O O
  have hml:(allM w).length<=65:=by unfold allM;rw[←hdone];simp;omega
  have J:Own (λb=>σ.size<=b) v8 e 3 (kv (allM w)):=J;generalize hall:allM w=l at J p hml;have hmk:qO w=mn l l.length:=by unfold qO;rw[hall]
  have hl2:e.len=l.length:=by have:=J.1;rw[Uz]at this;omega
  refine Ko (a:=.s) (bb:=bN) (λ(out:Sl) (z:Int) u=>∃i:Nat,z=(i:Int)/\i<=l.length/\bO v8 u/\Own (λb=>v8.size<=b) u out 3 (kv (mn l i))/\(mn l i).length<=i) (λ_ z _=>l.length-z.toNat) ⟨0,rfl,O,Ext.refl _ _,Own.nil _ _ _,by simp[mn]⟩ ?_;rintro(out:Sl) (z:Int) u ⟨i,rfl,hi,eu8,hout,hol⟩;refine cI (λV=>?_) λM=>?_
  ·have hi':i<l.length:=by omega
   have B:l[i]?=some l[i]:=cM hi';generalize l[i]=x at B;have C:=p x (zE B);have g:mn l (i+1)=mn l i++(if p7 l i then[x]else[]):=by
    unfold mn;rw[j7,uL]
    congr 1
    by_cases hk:p7 l i=true
    ·simp[hk,B]
    ·simp[hk]
   have hA:∀m,bO u m->gH m e l:=λm d=>JZ (J.bK (eu8.trans d));refine BM (λr u'=>bO u u'/\r=p7 l i) (λr u' ⟨j,Y⟩=>?_) λJ3 G=>?_
   ·have S:=hout.bK j;cases hk:p7 l i with
    | true=>
     rw[hk]at Y g;refine cJ Y (UZ (hA u' j) B ?_);refine tU S (λb E=>by have:=eu8.1;have:=j.1;omega) O x λout1 v12 e12 h12=>?_;refine cA (m:=i+1) O O ⟨⟨i+1,rfl,O,Ext.fF (eu8.trans j) e12 λb E=>.inr E,?_,?_⟩,O⟩
     ·rw[g];exact h12
     ·rw[g];simp;omega
    | false=>
     rw[hk]at Y g;refine cG Y (cA (m:=i+1) O O ⟨⟨i+1,rfl,O,eu8.trans j,?_,?_⟩,O⟩)
     ·rw[g];simpa using S
     ·rw[g];simp;omega
   ·refine⟨λm=>bO u m,Ext.refl _ _,ar O O ?_⟩;refine cU (λH=>G _ _ ⟨Ext.refl _ _,?_⟩) λhnl=>?_
    ·have:i=l.length-1:=by simp only[zZ]at H;omega
     unfold p7;rw[this];simp
    ·have hi2:i+1<l.length:=by simp only[m8]at hnl;omega
     have Z:l[i+1]?=some l[i+1]:=cM hi2;generalize l[i+1]=y at Z;have D:=p y (zE Z);have L:p7 l i=(x.2.1 != y.2.1||nj x != nj y):=by
      unfold p7;rw[B,Z];have:(i==l.length-1)=false:=by simp only[m8];omega
      rw[this];rfl
     have U:=λ(m:Hp) (d:bO u m)=>(hA m d).2 i x.1 x.2.1 x.2.2 B;have hcy:=λ(m:Hp) (d:bO u m)=>(hA m d).2 (i+1) y.1 y.2.1 y.2.2 Z;obtain⟨b,o,ha,_,_⟩:=U u (Ext.refl _ _);have rx:∀m,bO u m->cell m ⟨b,o+i*3,none⟩=some (.int .i64 x.1)/\cell m ⟨b,o+i*3+1,none⟩=some (.int .i64 x.2.1)/\cell m ⟨b,o+i*3+2,none⟩=some (.int .i64 x.2.2):=λm d=>by
      obtain⟨b',o',A,_,h⟩:=U m d;rw[ha]at A;cases A;exact h
     have X:∀m,bO u m->cell m ⟨b,o+(i+1)*3,none⟩=some (.int .i64 y.1)/\cell m ⟨b,o+(i+1)*3+1,none⟩=some (.int .i64 y.2.1)/\cell m ⟨b,o+(i+1)*3+2,none⟩=some (.int .i64 y.2.2):=λm d=>by
      obtain⟨b',o',A,_,h⟩:=hcy m d;rw[ha]at A;cases A;exact h
     have N:∀{K:Addr->Prop},K ⟨b,o+i*3,none⟩->Ix e.a e.len (i:Int) 3 K:=λhK=>by
      rw[ha];exact ix O O (by rw[add_lit,dC];exact hK)
     have W:∀{K:Addr->Prop},K ⟨b,o+(i+1)*3,none⟩->Ix e.a e.len ((i+1:Nat):Int) 3 K:=λhK=>by
      rw[ha];exact ix O O (by rw[add_lit,dC];exact hK)
     refine N ⟨x.2.1,λm d=>by rw[add_lit];exact(rx m d).2.1,cA (m:=i+1) O O (W ⟨y.2.1,λm d=>by rw[add_lit];exact(X m d).2.1,?_⟩)⟩;refine cU (λhp=>G _ _ ⟨Ext.refl _ _,by rw[L,hp];rfl⟩) λhp=>?_;refine N ⟨x.1,λm d=>by rw[add_lit];exact(rx m d).1,⟨x.2.1,λm d=>by rw[add_lit];exact(rx m d).2.1,⟨x.2.2,λm d=>by rw[add_lit];exact(rx m d).2.2,?_⟩⟩⟩;refine cA (m:=i+1) O O (W ⟨y.1,λm d=>by rw[add_lit];exact(X m d).1,⟨y.2.1,λm d=>by rw[add_lit];exact(X m d).2.1,⟨y.2.2,λm d=>by rw[add_lit];exact(X m d).2.2,?_⟩⟩⟩);refine FF x C.1 C.2.1 C.2.2.1 C.2.2.2 λv13 F=>⟨F,FF y D.1 D.2.1 D.2.2.1 D.2.2.2 λv14 P=>⟨F.trans P,G _ _ ⟨F.trans P,by rw[L,hp];rfl⟩⟩⟩
  ·have hil:i=l.length:=by omega
   subst hil;refine hR out u (e08.trans eu8) ?_;rw[hmk];exact JZ hout
theorem HV:∀w:Nat,2<=w->w<=16->Qi (qO (w:Int))=true:=by
 have h:((List.range 17).all λw=>decide (w<2)||Qi (qO (w:Int)))=true:=by decide +kernel
 intro w h1 h2;have:=kN.1 h w (zU.2 O);simp only[ot,zT]at this;exact this.resolve_left O
end Go.Ar
namespace Go.Proofs
open Go.Shelf
def Tryz.eU:Go.Shelf.Ren:=⟨fun|6=>261|15=>129|14=>284|28=>167|29=>168|20=>303|21=>304|22=>305|23=>306|24=>307|25=>308|26=>309|27=>310|46=>316|47=>206|48=>207|49=>317|50=>318|57=>320|n=>n,fun|22=>124|24=>130|25=>346|3=>3|39=>199|0=>0|53=>255|55=>257|4=>4|46=>248|45=>247|50=>252|5=>5|9=>9|66=>299|70=>105|76=>335|77=>336|n=>n,fun|n=>n⟩
theorem Tryz.pZ:Go.Proofs.SlLaysF0.n6 Tryz.prog Tryz.eU:={
 mixed:=by kernel_rfl
 f6:=⟨Tryz.f261.name,by decide,Tryz.func261.trans (congrArg some (by kernel_rfl))⟩
 f14:=⟨Tryz.f284.name,by decide,Tryz.func284.trans (congrArg some (by kernel_rfl))⟩
 f15:=Tryz.func129.trans (congrArg some (by kernel_rfl))
 f20:=⟨Tryz.f303.name,by decide,Tryz.func303.trans (congrArg some (by kernel_rfl))⟩
 f21:=⟨Tryz.f304.name,by decide,Tryz.func304.trans (congrArg some (by kernel_rfl))⟩
 f22:=⟨Tryz.f305.name,by decide,Tryz.func305.trans (congrArg some (by kernel_rfl))⟩
 f23:=⟨Tryz.f306.name,by decide,Tryz.func306.trans (congrArg some (by kernel_rfl))⟩
 f24:=⟨Tryz.f307.name,by decide,Tryz.func307.trans (congrArg some (by kernel_rfl))⟩
 f25:=⟨Tryz.f308.name,by decide,Tryz.func308.trans (congrArg some (by kernel_rfl))⟩
 f26:=⟨Tryz.f309.name,by decide,Tryz.func309.trans (congrArg some (by kernel_rfl))⟩
 f27:=⟨Tryz.f310.name,by decide,Tryz.func310.trans (congrArg some (by kernel_rfl))⟩
 f28:=Tryz.func167.trans (congrArg some (by kernel_rfl))
 f29:=Tryz.func168.trans (congrArg some (by kernel_rfl))
 f46:=⟨Tryz.f316.name,by decide,Tryz.func316.trans (congrArg some (by kernel_rfl))⟩
 f47:=Tryz.func206.trans (congrArg some (by kernel_rfl))
 f48:=Tryz.func207.trans (congrArg some (by kernel_rfl))
 f49:=⟨Tryz.f317.name,by decide,Tryz.func317.trans (congrArg some (by kernel_rfl))⟩
 f50:=⟨Tryz.f318.name,by decide,Tryz.func318.trans (congrArg some (by kernel_rfl))⟩
 f57:=⟨Tryz.f320.name,by decide,Tryz.func320.trans (congrArg some (by kernel_rfl))⟩
 t0:=Tryz.underlying0
 a0:=Tryz.isAgg0
 z0:=Tryz.sizeOf0
 v0:=Tryz.zeroValue0
 t3:=Tryz.underlying3
 a3:=Tryz.isAgg3
 z3:=Tryz.sizeOf3
 v3:=Tryz.zeroValue3
 t4:=Tryz.underlying4
 a4:=Tryz.isAgg4
 z4:=Tryz.sizeOf4
 v4:=Tryz.zeroValue4
 t5:=Tryz.underlying5
 a5:=Tryz.isAgg5
 z5:=Tryz.sizeOf5
 v5:=Tryz.zeroValue5
 t9:=Tryz.underlying9
 a9:=Tryz.isAgg9
 z9:=Tryz.sizeOf9
 v9:=Tryz.zeroValue9
 t22:=Tryz.underlying124
 a22:=Tryz.isAgg124
 z22:=Tryz.sizeOf124
 v22:=Tryz.zeroValue124
 t25:=Tryz.underlying346
 a25:=Tryz.isAgg346
 z25:=Tryz.sizeOf346
 v25:=Tryz.zeroValue346
 t39:=Tryz.underlying199
 a39:=Tryz.isAgg199
 z39:=Tryz.sizeOf199
 v39:=Tryz.zeroValue199
 t45:=Tryz.underlying247
 a45:=Tryz.isAgg247
 z45:=Tryz.sizeOf247
 v45:=Tryz.zeroValue247
 t46:=Tryz.underlying248
 a46:=Tryz.isAgg248
 z46:=Tryz.sizeOf248
 v46:=Tryz.zeroValue248
 t50:=Tryz.underlying252
 a50:=Tryz.isAgg252
 z50:=Tryz.sizeOf252
 v50:=Tryz.zeroValue252
 t53:=Tryz.underlying255
 a53:=Tryz.isAgg255
 z53:=Tryz.sizeOf255
 v53:=Tryz.zeroValue255
 t55:=Tryz.underlying257
 a55:=Tryz.isAgg257
 z55:=Tryz.sizeOf257
 v55:=Tryz.zeroValue257
 t66:=Tryz.underlying299
 a66:=Tryz.isAgg299
 z66:=Tryz.sizeOf299
 v66:=Tryz.zeroValue299
 t70:=Tryz.underlying105
 a70:=Tryz.isAgg105
 z70:=Tryz.sizeOf105
 v70:=Tryz.zeroValue105
 t76:=Tryz.underlying335
 a76:=Tryz.isAgg335
 z76:=Tryz.sizeOf335
 v76:=Tryz.zeroValue335
 t77:=Tryz.underlying336
 a77:=Tryz.isAgg336
 z77:=Tryz.sizeOf336
 v77:=Tryz.zeroValue336}
end Go.Proofs
namespace Go.Ar
open Go Go.Vc Go.Proofs Go.RowKit Go.Sort Go.Shelf Go.Lib
abbrev uA:=Fin 64×Sl
instance:Inhabited uA:=⟨(0,⟨none,0,0⟩)⟩
def kV (x:uA):List Value:=[.int .i64 (x.1.val:Int),.slice x.2.a x.2.len x.2.cap]
def oW (x y:uA):Int:=(x.1.val:Int)-(y.1.val:Int)
theorem Cd (x y:uA)(W:World):Calls Tryz.prog 262 #[.agg #[.int .i64 (x.1.val:Int),.slice x.2.a x.2.len x.2.cap],.agg #[.int .i64 (y.1.val:Int),.slice y.2.a y.2.len y.2.cap]] W λe w'=>e=.returned (.int .i64 (oW x y))/\∃q os',w'=grow (W.drewN q) os':=by
 have g:IntKind.i64.wrap ((x.1.val:Int)-(y.1.val:Int))=oW x y:=by
  have d:=x.1.isLt;have b:=y.1.isLt;unfold oW;exact UN O O
 go_enter Tryz.func262,Tryz.ntmps262
 go_wp2
 go_ret
 exact⟨rfl,0,_,by rw[alloc_eq_grow,alloc_eq_grow,grow_grow];rfl⟩
theorem AL:SWO (ltOf oW) where
 irrefl x:=by simp[ltOf,oW]
 trans x y z a h2:=by
  have a:=pE a;have h2:=pE h2;unfold oW at a h2;exact zW (by unfold oW;omega)
 ntrans x y z a h2:=by
  have a:=rW a;have h2:=rW h2;unfold oW at a h2;exact zh (by unfold oW;omega)
def sN (x:uA):Nat×Sl:=(x.1.val,x.2)
theorem IX (l:List uA)(j:Nat)(hj:j<l.length*2):(fK (l.map sN))[j]?=some (flatK kV 2 l.toArray)[j]! := by
 rw[get_flatK _ _ _ _ (by simpa using hj)];have a:j/2<l.length:=by omega
 have e:l.toArray[j/2]! = l[j/2]:=by rw[getElem!_pos _ _ (by simpa using a)];simp
 have b:(l.map sN)[j/2]?=some (sN l[j/2]):=by simp[a]
 have:=PV b (d:=j%2) O;rw[show 2*(j/2)+j%2=j by omega]at this;rw[this,e];have hd:j%2=0\/j%2=1:=by omega
 rcases hd with h|h<;>rw[h]<;>rfl
theorem Cb:H8:=by
 intro σ F s xs hrow hk hlen R hR;rintro w rfl;have hsl:s.len=xs.length:=by have:=hrow.1;rw[KF]at this;omega
 rcases hrow.2 with⟨h0,hc0⟩|⟨b,cs,hF,ha,hb,hle,hcl,ht⟩
 ·have E:xs=[]:=yX.1 O;have:=AnyF.slices_SortFunc_none Tryz.pZ s.a s.cap (.func (.func 262) #[] #[]) w;show Calls _ _ #[.slice s.a s.len s.cap,.func (.func 262) #[] #[]] w _;rw[h0];refine this.mono ?_;rintro e w' ⟨rfl,rfl⟩;subst E;exact⟨.refl _,[],rfl,hR [] _ (.refl _) List.Pairwise.nil (Ext.refl _ _) hrow⟩
 ·have J:∀x∈xs,x.1<64:=hk
  let toK:Nat×Sl->uA:=λx=>(Fin.ofNat 64 x.1,x.2)
  have r:(xs.map toK).map sN=xs:=by
   rw[zm]
   conv=>rhs;rw[←wj xs]
   apply zw;intro x hx;simp only[Function.comp,toK,sN,Fin.ofNat,id];rw[uG (J x hx)]
  have K:(xs.map toK).length=xs.length:=by simp
  generalize xs.map toK=l at r K;have z:=hb.lt;have U:HoldsK kV 2 w b 0 l.toArray:=by
   intro j hj;simp only[size_flatK,y5]at hj;have V:Vc.cell w.heap ⟨b,0+j,none⟩=some (flatK kV 2 l.toArray)[j]! := by
    rw[hb.cell,zG,←IX l j hj,r];rw[←ht,zX,zB (by rw[KF];omega)]
   exact⟨V,hb.oI⟩
  have Y:∀args w,(callFunc 262 args).run Tryz.prog w=.ok (.enter 262 args) w:=enters_of Tryz.func262 (by kernel_rfl) rfl;have A:∀w,(isAgg (Tryz.eU.t 24)).run Tryz.prog w=.ok true w:=λw=>by
   have h:=KG (P:=Tryz.prog) (t:=Tryz.eU.t 24) (d:=(Tryz.prog.underlying (Tryz.eU.t 24)).getD .bool) (by kernel_rfl) w
   rwa [show Uh ((Tryz.prog.underlying (Tryz.eU.t 24)).getD .bool)=true by kernel_rfl]at h
  have G:∀w,(Go.sizeOf (Tryz.eU.t 24)).run Tryz.prog w=.ok 2 w:=λw=>by
   have h:=QR (P:=Tryz.prog) (t:=Tryz.eU.t 24) (by kernel_rfl) w
   rwa [show Tryz.prog.cellsOf (Tryz.eU.t 24)=2 by kernel_rfl]at h
  have B:=AnyQ.slices_SortFunc Tryz.pZ 2 A G kV (λ_=>rfl) (λx v S=>by simp only[kV,zQ,List.not_mem_nil,or_false]at S;rcases S with rfl|rfl<;>rfl) oW AL 262 #[] b 0 s.cap l.toArray w Y (λ_ _ _ _ x y=>Cd x y _) U z (by simp only[y5];omega)
  show Calls _ _ #[.slice s.a s.len s.cap,.func (.func 262) #[] #[]] w _;rw[ha,show s.len=l.toArray.size by simp only[y5];omega];refine B.mono ?_;rintro e w' ⟨rfl,d',n,os,Q,L,rfl⟩;have g:d'.size=l.length:=by simpa using Q.1
  have u:d'.toList.Perm l:=by
   have H:=Q.2.2;rw[show l.toArray.size=d'.size by simp[g]]at H;have e1:(d'.extract 0 d'.size)=d':=by simp
   have X:(l.toArray.extract 0 d'.size)=l.toArray:=by rw[g];simp
   rw[e1,X]at H;simpa using H
  obtain⟨ty,N⟩:=hb;have m:(sortWorldK kV 2 w b 0 n d' os).heap=(w.heap.modify b (onCells (putCells id 0 (flatK kV 2 d'))))++os:=rfl;have p:(w.heap.modify b (onCells (putCells id 0 (flatK kV 2 d')))).size=w.heap.size:=by simp
  refine⟨⟨rfl,rfl,rfl,by rw[m,Array.size_append,p];omega⟩,[],rfl,?_⟩;rw[m];have C:Ext F w.heap ((w.heap.modify b (onCells (putCells id 0 (flatK kV 2 d'))))++os):=by
   refine⟨by rw[Array.size_append,p];omega,λq W Z=>?_⟩;rw[BW (by rw[p];exact W),yn,zA λ(e:b=q)=>Z (by rw[←e];exact hF)]
  refine hR (d'.toList.map sN) _ ?_ ?_ C ⟨?_,.inr ⟨b,(putCells id 0 (flatK kV 2 d') cs.toArray).toList,hF,ha,⟨ty,?_⟩,hle,?_,?_⟩⟩
  ·rw[←r];exact u.map _
  ·rw[qD];rw[kj];intro i j hi hj hij;have D:=L i j O hij (by simp only[vV]at hj;simp only[y5];omega);rw[getElem!_pos d' i (by simpa using hi),getElem!_pos d' j (by simpa using hj)]at D;have D:=rW D;unfold oW at D;simp only[sN,Array.getElem_toList];omega
  ·rw[KF,za,vV,g];omega
  ·rw[BW (by rw[p];exact z),yn,zB rfl,N];simp[onCells]
  ·simp[putCells,hcl]
  ·rw[KF,za,vV,g];apply zz;intro j;rw[zX];by_cases hj:j<l.length*2
   ·rw[zB hj,IX d'.toList j (by simpa[g]using hj)];have M:j<cs.length:=by
     have:l.length*2<=s.cap*2:=lN _ O;omega
    simp only[putCells,Ag,Array.getElem?_mapIdx,List.getElem?_toArray,cM M,zf];rw[zB ⟨O,by rw[size_flatK,g];omega⟩];simp
   ·rw[zA hj,zY (by rw[KF,za,vV,g];omega)]
end Go.Ar
namespace Go.Proofs
open Go.Vc
set_option maxRecDepth 100000
def XI.h:Hn:=.q .o1 (.q .o4 .l)
def XI.v (a:Hp)(b:Option Addr->Hp->Prop):Prop:=Wu.c 8 64 1 1 1024 2 a λc d=>b c d
theorem XI.o {a b}(c:XI.v a b):XI.c a b:=Wa Tryz.func29 (x:=XI.h) (R0 c)
def X5.h:Hn:=.q .o1 (.q .o5 .l)
def X5.v (a:Sl)(b:Int)(c:Hp)(d:aO):Prop:=d (decide (((a.len:Nat):Int)>b)) c
theorem X5.o {a b c d}(e:X5.v a b c d):X5.c a b c d:=Wa Tryz.func34 (x:=X5.h) (R0 e)
def Wu.h:Hn:=.q .o2 (.q .o8 (.q .o9 (.q (.q .o2 .aK) .aL)))
def Wu.v (a b c d e f:Int)(g:Hp)(h:Option Addr->Hp->Prop):Prop:=aV #[.I a,.I b,.I c,.I d,.I e,.I f] 65 g λi j=>aQ i 0 j λk=>WY.c k j λl m n=>bM ((i.add 1).add 0) n λo=>bM ((i.add 1).add 1) n λp=>bM ((i.add 1).add 2) n λq=>bM ((i.add 1).add 3) n λr=>bM ((i.add 1).add 4) n λs=>Kw.c l o p q r s n λt u v=>If (u != 0) (h none v) (h t v)
theorem Wu.o {a b c d e f g h}(i:Wu.v a b c d e f g h):Wu.c a b c d e f g h:=Wa Tryz.func63 (x:=Wu.h) (R0 i)
def WQ.h:Hn:=.q .o2 (.q .o5 .l)
def WQ.v (a b c d e f:Int)(g:Hp)(h:aO):Prop:=aV #[.I a,.I b,.I c,.I d,.I e,.I f] 65 g λi j=>bM ((i.add 1).add 0) j λk=>h (decide (k>128)) j
theorem WQ.o {a b c d e f g h}(i:WQ.v a b c d e f g h):WQ.c a b c d e f g h:=Wa Tryz.func64 (x:=WQ.h) (R0 i)
def Yr.h:Hn:=.q .o2 (.q (.q (.cV (.seq [.op,.op,.op,.op,.dA false 3 (RI.ops 3)])) (.c (.q .o3 .l) .l)) (.q (.oq 12) .l))
def Yr.v (a:Sl)(b c d e f g h:Int)(i:ByteArray)(j:Hp)(k:aN):Prop:=aV #[.I b,.I c,.I d,.I e,.I f,.I g,.I h,.string i] 87 j λl m=>aQ l 4 m λn=>bY (λo p=>If o (aQ l 5 p λq=>k q p) (aQ l 4 p λr=>Nz ((a.len:Nat):Int) <| Ix a.a a.len (r.tmod ((a.len:Nat):Int)) 1 λs=>bM s p λt=>aQ l 5 p λu=>bL (t+u) λv=>k v p)) λw=>If (n<0) (w true m) (w (((a.len:Nat):Int)==0) m)
theorem Yr.o {a b c d e f g h i j k}(l:Yr.v a b c d e f g h i j k):Yr.c a b c d e f g h i j k:=Wa Tryz.func69 (x:=Yr.h) (R0 l)
def Y6.h:Hn:=.q .o4 (.q .o4 (.q (.q .o2 (.k (.q .o2 (.c (.q (.o 13) (.q .o6 .l)) (.q .o2 (.c (.q .o8 .l) (.q .o2 (.c (.q .o7 .l) (.q .o2 (.c (.q .o8 .l) (.q .o2 (.c (.q .o8 (.q .o5 .l)) (.q .o2 (.c (.q (.o 12) .l) (.q .o2 (.c (.q .o9 .l) (.q .o2 (.c (.q (.o 12) (.q (.q (.cV (.seq [.op,.op,.op,.dA false 2 [.op,.op]])) (.c (.q .o4 .l) .l)) (.q (.oq 10) .l))) (.q .o2 (.c (.q .o9 (.q .o5 .l)) (.q .o2 (.c (.q .o5 .l) (.q .o2 (.c .o2 .l)))))))))))))))))))))))) (.q .o3 .l)))
def Y6.v (a:R2)(b:Sl)(c d e f g h i:Int)(j:ByteArray)(k:Hp)(l:Int->Int->Int->Hp->Prop):Prop:=aV #[.I c,.I d,.I e,.I f,.I g,.I h,.I i,.string j] 87 k λm n=>aQ m 0 n λo=>aQ m 1 n λp=>aQ m 2 n λq=>aQ m 3 n λr=>aQ m 4 n λs=>aQ m 5 n λt=>aQ m 6 n λu=>bC m 7 n λv=>Yr.c b o p q r s t u v n λw x=>aQ m 0 x λy=>If (y==0) (aQ m 1 x λz=>aQ m 2 x λaa=>aQ m 3 x λab=>Yh.c a z aa ab x λac ad ae=>l ac ad ac ae) (If (y==1) (aQ m 1 x λaf=>Zr.c a af w x λag ah=>l 0 ag 0 ah) (If (y==2) (aQ m 1 x λai=>Zl.c a ai x λaj ak=>l 0 aj 0 ak) (If (y==3) (aQ m 6 x λal=>Zi.c a w al x λam an=>l 0 am 0 an) (If (y==4) (Wbl.c a w x λao ap aq=>l ao ap 0 aq) (If (y==5) (aQ m 1 x λar=>aQ m 2 x λau=>aQ m 3 x λav=>Yd.c a ar 0 au av 0 x λaw ax=>l 0 aw 0 ax) (If (y==6) (aQ m 1 x λay=>Yd.c a ay 1 0 0 w x λaz a0=>l 0 az 0 a0) (If (y==7) (aQ m 1 x λa1=>Zb.c a a1 x λa2 a3 a4 a5 a6=>aV #[.I 0,.I 0] 156 a6 λa7 a8=>aR a7 0 (.I a3) a8 λa9=>aR a7 1 (.I a4) a9 λba=>bY (λbb bc=>If bb (l 0 a5 0 bc) (aQ a7 0 bc λbd=>aQ a7 1 bc λbe=>bL (100+be) λbf=>aQ a7 0 bc λbg=>l bd bf bg bc)) λbh=>If (a5 != 0) (bh true ba) (bh (!a2) ba)) (If (y==8) (aQ m 2 x λbi=>
 Yy.c a bi x λbj bk bl=>l bj bk 0 bl) (If (y==9) (ZA.c a x λbm bn=>l bm 0 0 bn) (If (y==10) (ZC.c a x λbo=>l 0 0 0 bo) (l 0 0 0 x)))))))))))
theorem Y6.o {a b c d e f g h i j k l}(m:Y6.v a b c d e f g h i j k l):Y6.c a b c d e f g h i j k l:=Wa Tryz.func70 (x:=Y6.h) (R0 m)
end Go.Proofs
namespace Go.Ar
open Go Go.Vc Go.Proofs
variable {σ w w':Hp}{F P Q:Rg}{L:dS}{H H':Hw}{held:List Pc}{s0:Sp}{t n:Nat}{g:Th}
structure fS where
 kd:Int
 th:Int
 a:Int
 b:Int
 of:Int
 pl:Int
 va:Int
 s:ByteArray
def qA (d:fS):List Value:=[.int .i64 d.kd,.int .i64 d.th,.int .i64 d.a,.int .i64 d.b,.int .i64 d.of,.int .i64 d.pl,.int .i64 d.va,.string d.s]
def lS (x:Int):Prop:=-9223372036854775808<=x/\x<=9223372036854775807
structure ln (d:fS):Prop where
 a:lS d.a
 b:lS d.b
 pl:lS d.pl
 va:lS d.va
structure jW (σ:Hp) (sl:Sl) (ds:List fS):Prop where
 len:sl.len=ds.length
 at_:∀(i:Nat) (d:fS),ds[i]?=some d->∃b o,sl.a=some ⟨b,o,none⟩/\b<σ.size/\∀(j:Nat) v,(qA d)[j]?=some v->cell σ ⟨b,o+i*8+j,none⟩=some v
 i:∀d∈ds,ln d
 Ae:ds.length<=9223372036854775807
theorem jW.bK {sl:Sl}{ds:List fS}(h:jW σ sl ds)(e:bO σ w):jW w sl ds:=⟨h.len,λi d p=>by
 obtain⟨b,o,r,m,a⟩:=h.at_ i d p;exact⟨b,o,r,by have:=e.1;omega,λj v g=>by rw[QN e m id];exact a j v g⟩,h.i,h.Ae⟩
theorem jW.rd {sl:Sl}{ds:List fS}(h:jW σ sl ds)(e:bO σ w){i:Nat}{d:fS}(hx:ds[i]?=some d){K:Addr->Prop}(hK:∀b o,(∀w',bO σ w'->∀(j:Nat) v,(qA d)[j]?=some v->cell w' ⟨b,o+j,none⟩=some v)->K ⟨b,o,none⟩):Ix sl.a sl.len (i:Int) 8 K:=by
 obtain⟨b,o,u,s,p⟩:=h.at_ i d hx;have x:=(cQ.1 hx).1;have g:=h.len;rw[u];refine ix O O ?_;rw[add_lit,dC];exact hK b _ λw' m j v r=>by rw[QN m s id];exact p j v r
theorem DJ {b o i:Nat}{h:Hp}{x:ByteArray}{K:ByteArray->Prop}(hc:cell h ⟨b,o+i,none⟩=some (.string x))(hK:K x):vZ (Addr.add ⟨b,o,none⟩ i) h K:=⟨x,by rw[add_lit];exact hc,hK⟩
theorem _root_.Go.Vc.bX.rT {b o i:Nat}{cs:List Value}(hb:bX σ b cs){x:ByteArray}{K:ByteArray->Prop}(hc:cs[o+i]?=some (.string x))(hK:K x):vZ (Addr.add ⟨b,o,none⟩ i) σ K:=⟨x,by rw[add_lit,hb.cell];exact hc,hK⟩
def uB (ad:List Int)(d:fS):Int:=if d.of<0\/ad=[]then d.pl else IntKind.i64.wrap (ad.getD (d.of.toNat%ad.length) 0+d.pl)
theorem J6 {ad:List Int}{d:fS}(h:ln d):lS (uB ad d):=by
 unfold uB;split
 ·exact h.pl
 ·exact N8 _
theorem FT {addrs:Sl}{ad:List Int}(hs:cR addrs 1 (Wv ad) σ F)(d:fS){R:aN}(hR:∀σ',bO σ σ'->R (uB ad d) σ'):Yr.c addrs d.kd d.th d.a d.b d.of d.pl d.va d.s σ R:=by
 refine Yr.o ?_;unfold Yr.v;have z:addrs.len=ad.length:=by have:=hs.1;simp[Wv]at this;omega
 refine nw (cs:=qA d) λv D e j=>j.rI rfl (UC (λr w=>w=v/\r=decide (d.of<0\/ad=[])) (λr w ⟨C,y⟩=>?_) λJ x=>cI (λm=>x _ _ ⟨rfl,by rw[zW (.inl m)]⟩) λm=>x _ _ ⟨rfl,?_⟩)
 ·subst C;have g:=hR w e;by_cases hc:d.of<0\/ad=[]
  ·refine cJ (by rw[y];exact zW hc) (j.rI rfl ?_);unfold uB at g;rw[zB hc]at g;exact g
  ·have i:0<ad.length:=qo.2 λh=>hc (.inr h);refine cG (by rw[y];exact zh hc) (j.rI rfl (nz O ?_));have u:0<=d.of:=by omega
   have B:d.of.tmod (addrs.len:Int)=((d.of.toNat%ad.length:Nat):Int):=by
    rw[Q9 u,z,Int.natCast_emod,Int.toNat_of_nonneg u]
   rw[B];have p:d.of.toNat%ad.length<ad.length:=vK _ i;have A:ad[d.of.toNat%ad.length]?=some ad[d.of.toNat%ad.length]:=cM p;refine(cR.loc _ _ _ |>.bK (aH.cut hs) e).pK A (j.rI rfl (yG ?_));unfold uB at g;rw[zA hc,zL,A]at g;exact g
 ·rw[z];rw[nL];simp only[zZ,zT];constructor
  ·intro h;exact .inr (yX.1 O)
  ·rintro(h|h)
   ·exact(m h).elim
   ·rw[h];rfl
theorem Tj {l:Sl}{most:Int}{R:aO}(hR:R (decide ((l.len:Int)>most)) σ):X5.c l most σ R:=by
 refine X5.o ?_;unfold X5.v;exact hR
theorem Od {xs:List (Int×Int×Int)}(h:Qi xs=true):(xs.map ZW).map j5=xs:=by
 rw[zm]
 conv=>rhs;rw[←wj xs]
 apply zw;intro t ht;obtain⟨i,a⟩:=zN ht;have:=((Qr xs).1 h).2.2.1 i t a;obtain⟨c,_,e,d,g,b⟩:=yk this;simp only[Function.comp,id];rw[show ZW t=c from e];unfold j5;rw[←d,←g,←b]
theorem LZ {xs:List (Int×Int×Int)}(h:Qi xs=true):(xs.map ZW).length<=40/\∀c∈xs.map ZW,c.ok:=by
 refine⟨by have:=((Qr xs).1 h).2.1;simpa using this,λc e=>?_⟩;obtain⟨t,b,rfl⟩:=zC.1 e;obtain⟨i,d⟩:=zN b;have:=((Qr xs).1 h).2.2.1 i t d;obtain⟨c,a,g,_⟩:=yk this;rw[show ZW t=c from g];exact a
structure tV (H:Hw) (aF:Int):Prop where
 hi:HI H [] (Vq H.cf.aF)
 cf:mw H
 pg:(H.cf.aF:Int)=aF
 live:H.live=[]
 ph:∀g∈H.bQ,g.ph=none
theorem E1 {xs:List (Int×Int×Int)}{p a t b r:Int}(h:Qi xs=true)(hc:sf p a t b r=true):tV (Uf (xs.map ZW) ⟨p.toNat,a.toNat,t.toNat,b.toNat,r.toNat⟩) p:=by
 obtain⟨⟨w,y,j⟩,⟨s,x⟩,⟨u,m⟩,_⟩:=(Lm p a t b r).1 hc;obtain⟨d,e⟩:=LZ h;refine⟨SW (cf:=⟨p.toNat,a.toNat,t.toNat,b.toNat,r.toNat⟩) aC aC aC aC d e,⟨by simp only[Uf];omega,by simp[Uf],?_⟩,by simp only[Uf];omega,rfl,λg i=>by rw[Dz i]⟩;show Qi ((xs.map ZW).map j5)=true;rw[Od h];exact h
theorem π (g:Gl σ)(gd:Gd σ)(b b1 b2 b3 b4 b5:Int){R:Option Addr->Hp->Prop}(h0:∀σ',bO σ σ'->R none σ')
 (h1:∀σ' L N H,bO σ σ'->σ.size<=N->N<=σ'.size->HH σ' (λb=>N<=b) L H->tV H b1->R (some ⟨L.p,0,none⟩) σ'):Wu.c b b1 b2 b3 b4 b5 σ R:=by
 refine Wu.o ?_;unfold Wu.v;refine nw (cs:=[.int .i64 b,.int .i64 b1,.int .i64 b2,.int .i64 b3,.int .i64 b4,.int .i64 b5]) λv G e j=>j.rI rfl ?_;by_cases hw:2<=b/\b<=16
 ·refine EP b hw.1 hw.2 λs F C A=>?_;have d:=C.bZ j id;have a:=e.trans C;have m:Qi (qO b)=true:=by
   have:=HV b.toNat O O;rw[show((b.toNat:Nat):Int)=b by omega]at this;exact this
  refine d.gD rfl (d.gD rfl (d.gD rfl (d.gD rfl (d.gD rfl ?_))));refine DP A (g.bK a) (gd.bK a) b1 b2 b3 b4 b5 (λu=>by rw[m]at u;cases u) (λ_ B w r=>?_) λ_ B w L r D=>?_
  ·exact cJ rfl (h0 w (a.trans r))
  ·exact cG rfl (h1 w L F.size _ (a.trans r) a.1 r.1 D (E1 m B))
 ·refine WkT b O (j.gD rfl (j.gD rfl (j.gD rfl (j.gD rfl (j.gD rfl ?_)))));have A:gH v ⟨none,0,0⟩ []:=⟨rfl,λi x y z E=>by simp at E⟩;refine DP A (g.bK e) (gd.bK e) b1 b2 b3 b4 b5 (λ_ w r=>cJ rfl (h0 w (e.trans r))) (λm=>?_) λm=>?_
  ·exact absurd m aB
  ·exact absurd m aB
def Safe (H:Hw)(d:fS)(x:Int)(e:Int×Bk):Prop:=(∀j,gU H j≠some (.find e.1))/\¬((d.kd=3\/d.kd=1\/d.kd=6)/\e.1<=x/\x<e.1+e.2.2.1)
structure tP (H:Hw) (d:fS) (x:Int) (H':Hw):Prop where
 hi:∃held s0,HI H' held s0
 kp:Z8 H' H
 fx:∀e∈H.live,Safe H d x e->e∈H'.live/\(∀w:Nat,e.1<=((8*w:Nat):Int)->((8*w:Nat):Int)<e.1+e.2.2.1->H'.sp.wd w=H.sp.wd w)/\∀j,gU H' j≠some (.find e.1)
theorem tP.op (h:HI H held s0){d:fS}{x:Int}(o:iC H H')(hl:∀e∈H.live,Safe H d x e->e∈H'.live):tP H d x H':=
 ⟨o.hi,o.kp,λe a b=>⟨hl e a b,h.kl o.ks e a,λj=>by rw[o.ph];exact b.1 j⟩⟩
theorem tP.ar {d:fS}{x:Int}(o:iG H H'):tP H d x H':=
 ⟨o.hi,o.kp,λe a b=>⟨by rw[o.live];exact a,o.kl e a,λj=>by unfold gU;rw[o.bQ];exact b.1 j⟩⟩
theorem HI.jk (h:HI H held s0){e:Int×Bk}(he:e∈H.live):8<=e.2.2.1/\0<=e.1/\e.1%8=0/\e.2.2.1%8=0/\e.1+e.2.2.1<=270000:=by
 obtain⟨_,p,d,C,B,K,J,_⟩:=h.lv e he;have E:=h.yW.size_pos d;have D:=h.yW.ka d;obtain⟨A,x,hd⟩:=h.yW.hf p d;have G:p.addr%8=0:=by
  rcases hd with⟨_,_,r,hr,c2,c3⟩|⟨j,c,c1,c2,c3,c4,_⟩
  ·omega
  ·obtain⟨a,w,b,u⟩:=c4;have:a=c:=Option.some.inj (b.1.symm.trans c2);subst this;have m:=(h.yW.ga _ A x).cC j a w b;obtain⟨l,s,i,F,z,e,_⟩:=(Ue m).1 u;have g:=m.ok;unfold bW.ok at g;unfold at_ at e;have y:a.size=8*(a.size/8):=by omega
   have:i*a.size=8*(i*(a.size/8)):=by rw[Nat.mul_left_comm,←y]
   omega
 omega
theorem tP.free (h:HI H held s0){d:fS}{x thread e:Int}(hd:d.kd=1)(o:iC H H')(hf:sQ H thread x H' e):tP H d x H':=by
 refine tP.op h o λi a g=>?_;have j:=h.jk a;rcases hf with⟨_,h2,_⟩|⟨_,_,_,h4⟩|⟨_,b,_,_,h4⟩
 ·rw[h2];exact a
 ·rw[h4];exact a
 ·rw[h4];refine Cq.2 ⟨a,λm=>g.2 ⟨.inr (.inl hd),O,O⟩⟩
end Go.Ar
namespace Go.Ar
open Go Go.Vc Go.Proofs
variable {σ w w':Hp}{F P Q X:Rg}{L:dS}{H H':Hw}{held:List Pc}{s0:Sp}{t n:Nat}{g:Th}
structure jP (σ0 σ:Hp) (L:dS) (H:Hw) (held:List Pc) (s0:Sp) (P Q:Rg) (addrs:Sl) (ad:List Int):Prop where
 e:bO σ0 σ
 h:HH σ P L H
 hi:HI H held s0
 cf:mw H
 pg:H.cf.aF<=128
 pP:∀b,P b->σ0.size<=b/\b<σ.size
 pQ:∀b,Q b->σ0.size<=b/\b<σ.size/\¬P b
 row:bR addrs 1 (Wv ad) σ Q
 al:ad.length<=60
 g0:iW (λb=>σ0.size<=b)/\¬σ0.size<=1
variable {σ0:Hp}{addrs:Sl}{ad:List Int}
theorem jP.out (p:jP σ0 σ L H held s0 P Q addrs ad){T:Rg}(e:Ext T σ w)(hT:∀b,b<σ.size->T b->¬P b/\¬Q b/\σ0.size<=b):jP σ0 w L H held s0 P Q addrs ad:=by
 have r:=e.1;have g:Ext (λb=>T b/\b<σ.size) σ w:=⟨e.1,λb a m=>e.2 b a λd=>m ⟨d,a⟩⟩;refine⟨Ext.fF p.e g λb a=>.inr (hT b a.2 a.1).2.2,p.h.bU g (λb a j d=>(hT b a d.1).1 j) (λb a=>?_) (λa=>?_),p.hi,p.cf,p.pg,λb a=>⟨(p.pP b a).1,by have:=(p.pP b a).2;omega⟩,λb a=>⟨(p.pQ b a).1,by have:=(p.pQ b a).2.1;omega,(p.pQ b a).2.2⟩,aI.bU p.row g λb a i d=>(hT b a d.1).2.1 i,p.al,p.g0⟩
 ·exact p.g0.1 b (hT b a.2 a.1).2.2
 ·exact p.g0.2 (hT _ a.2 a.1).2.2
theorem Wpf (hr:bR addrs 1 (Wv ad) σ Q)(hl:ad.length<=1000000)(x:Int){e t:Nat}{K:Sl->Hp->Prop}(hK:∀s' w,Ext Q σ w->bR s' 1 (Wv (ad++[x])) w (λb=>Q b\/σ.size<=b/\b<w.size)->K s' w) :
 Nw (.cells #[.int .i64 x] t (0,0)) σ λn v=>App addrs 1 8 e [.int .i64 0] ⟨some n,1,1⟩ v K:=by
 have p:addrs.len=ad.length:=by have:=hr.1;simp[Wv]at this;omega
 refine bR.push (F:=λb=>Q b\/σ.size<=b) (vs:=[.int .i64 x]) (aI.mono hr λb _ a=>.inl a) (λb a=>.inr a) rfl rfl (by simp[dN]) O O λs' w j g m=>hK s' w ⟨g.1,λb a i=>g.2 b a λd=>d.elim i λd=>O⟩ ?_;have:Wv (ad++[x])=Wv ad++[.int .i64 x]:=by simp[Wv]
 rw[this];refine aI.mono (aI.cut m) λb a d=>?_;rcases d.1 with h1|h1
 ·exact .inl h1
 ·exact .inr ⟨h1,a⟩
end Go.Ar
namespace Go.Proofs
open Go.Shelf
def Tryz.ij:Go.Shelf.Ren:=⟨fun|7=>67|10=>95|n=>n,fun|23=>44|26=>3|3=>76|28=>117|0=>0|27=>116|33=>152|4=>4|n=>n,fun|n=>n⟩
theorem Tryz.lE:Go.Proofs.SlLaysZI.n7 Tryz.prog Tryz.ij:={
 mixed:=by kernel_rfl
 f7:=⟨Tryz.f67.name,by decide,Tryz.func67.trans (congrArg some (by kernel_rfl))⟩
 f10:=⟨Tryz.f95.name,by decide,Tryz.func95.trans (congrArg some (by kernel_rfl))⟩
 t0:=Tryz.underlying0
 a0:=Tryz.isAgg0
 z0:=Tryz.sizeOf0
 v0:=Tryz.zeroValue0
 t4:=Tryz.underlying4
 a4:=Tryz.isAgg4
 z4:=Tryz.sizeOf4
 v4:=Tryz.zeroValue4
 t23:=Tryz.underlying44
 a23:=Tryz.isAgg44
 z23:=Tryz.sizeOf44
 v23:=Tryz.zeroValue44
 t26:=Tryz.underlying3
 a26:=Tryz.isAgg3
 z26:=Tryz.sizeOf3
 v26:=Tryz.zeroValue3
 t27:=Tryz.underlying116
 a27:=Tryz.isAgg116
 z27:=Tryz.sizeOf116
 v27:=Tryz.zeroValue116
 t28:=Tryz.underlying117
 a28:=Tryz.isAgg117
 z28:=Tryz.sizeOf117
 v28:=Tryz.zeroValue117
 t33:=Tryz.underlying152
 a33:=Tryz.isAgg152
 z33:=Tryz.sizeOf152
 v33:=Tryz.zeroValue152}
end Go.Proofs
namespace Go.Ar
open Go Go.Vc Go.Proofs Go.RowKit Go.Maps Go.Sort Go.Shelf
open Go.Vc (bV dF cT)
open Go.Bu (nJ AG Gi Br Ha EF)
variable {σ w w':Hp}{F P Q X S:Rg}{L:dS}{H H':Hw}{held:List Pc}{s0 sp:Sp}{t n:Nat}{g:Th}{σ0:Hp}
def GD:Nat:=Tryz.ij.f 10
def Bi:Nat:=Tryz.ij.t 23
theorem RD (m:Option Nat){R:Fv->Hp->Prop}(hR:R ⟨GD,#[],#[.pointer (some ⟨σ.size,0,none⟩)]⟩ (σ.push (.cells #[.map m] Bi (0,0)))) :
 ZO.c m σ R:=by
 rintro w rfl;refine(callsIn_wide.1 (AnyZI.keys_in Tryz.lE Fence.wide 5 trivial rfl m w)).mono ?_;rintro e a ⟨rfl,rfl⟩;exact⟨⟨rfl,rfl,rfl,rU (by show _<(w.heap.push _).size;simp)⟩,[.func (.func GD) #[] #[.pointer (some ⟨w.heap.size,0,none⟩)]],rfl,⟨GD,#[],#[.pointer (some ⟨w.heap.size,0,none⟩)]⟩,rfl,hR⟩
theorem Pn {w:World}{c m:Nat}{B:List (Int×Bk)}(hc:cell w.heap ⟨c,0,none⟩=some (.map (some m)))(hm:dL w.heap m .i64 (.ag 4) B)(hb:∀x∈B,Go.Bu.lS x.1)(hs:B.length<=1000000)(n:Nat)(hn:1<=n) :
 SeqGives Fence.wide n Tryz.prog GD #[.pointer (some ⟨c,0,none⟩)] encZ (λss=>ss.Perm (B.map (·.1))) B.length w:=by
 obtain⟨D,g,i,b⟩:=Ha (P:=Tryz.prog) Tryz.lE.t26 hm hb hs;have a:c<w.heap.size:=by
  unfold cell at hc;split at hc
  ·rename_i h;exact(mF.1 h).1
  ·cases hc
 have:=AnyZI.keys_gives (ρ:=Tryz.ij) {Tryz.lE with} Fence.wide n trivial rfl hn c m B.length D w a hc g;intro l J W hW hJ hY h0;rw[b]at this;refine(this l J W hW hJ hY h0).mono ?_;rintro e W' ⟨j,ss,d,p⟩;exact⟨j,ss,d.trans i,p⟩
theorem OI {c m:Nat}{B:List (Int×Bk)}(hc:cell σ ⟨c,0,none⟩=some (.map (some m)))(hm:dL σ m .i64 (.ag 4) B)(hb:∀x∈B,Go.Bu.lS x.1)(hs:B.length<=1000000){R:Sl->Hp->Prop}
 (hR:∀(s:Sl) (σ':Hp) (ss:List Int),bO σ σ'->ss.Perm (B.map (·.1))->ss.Pairwise (· <= ·)->nJ σ.size σ' s (ss.map (Value.int .i64))->R s σ') :
 VM.c ⟨GD,#[],#[.pointer (some ⟨c,0,none⟩)]⟩ σ R:=by
 rintro w rfl;have i:=Pn hc hm hb hs 2 O;have j:B.length<=maxLen:=by unfold maxLen;omega
 have u:=AnyZI.sorted_in Tryz.rE Fence.wide 5 trivial trivial trivial trivial rfl O (EF _) (Tryz.pc.f5.enters rfl) GD #[.pointer (some ⟨c,0,none⟩)] trivial (Tryz.lE.f10.enters rfl) _ _ j O _ i;refine(callsIn_wide.1 u).mono ?_;rintro e D ⟨v,ss,rfl,z,d,r,g⟩;obtain⟨s,rfl,p⟩:=AG d;refine⟨Br g,[.slice s.a s.len s.cap],rfl,s,rfl,?_⟩;refine hR s _ (ss.mergeSort λx y=>decide (x<=y)) (Gi g) ((List.mergeSort_perm _ _).trans z) ?_ p;have:=List.pairwise_mergeSort (le:=λx y:Int=>decide (x<=y)) (λa b c C A=>by simp at *;omega) (λa b=>by simp;omega) ss;exact this.imp (λh=>by simpa using h)
def m5 (b:Bk):List Value:=[.int .i64 b.1,.int .i64 b.2.1,.int .i64 b.2.2.1,.int .i64 b.2.2.2]
def jg (bs:List Bk):List Value:=bs.flatMap m5
theorem HC (bs:List Bk):(jg bs).length=bs.length*4:=by
 unfold jg
 induction bs with
 | nil=>rfl
 | cons b bs ih=>rw[mS,zK,ih];simp[m5];omega
theorem BA:∀{bs:List Bk} {i:Nat} {b:Bk},bs[i]?=some b->∀{j:Nat} {v:Value},(m5 b)[j]?=some v->(jg bs)[4*i+j]?=some v
 | [],i,b,h,_,_,_=>by simp at h
 | a::bs,0,b,h,j,v,hv=>by
  simp only[ve,Option.some.injEq]at h;subst h;have hj:=(cQ.1 hv).1;show(m5 a++jg bs)[4*0+j]?=_;rw[show 4*0+j=j by omega,zd hj];exact hv
 | a::bs,i+1,b,h,j,v,hv=>by
  have d:=BA (bs:=bs) (i:=i) (b:=b) (by simpa using h) hv;show(m5 a++jg bs)[4*(i+1)+j]?=_;rw[zo (by simp[m5];omega)];have:4*(i+1)+j-(m5 a).length=4*i+j:=by simp[m5];omega
  rw[this];exact d
structure iU (live:List (Int×Bk)) (bs:List Bk):Prop where
 len:bs.length=live.length
 mem:∀b,b∈bs↔(b.1,b)∈live
 pO:bs.Pairwise λa b=>a.1<b.1
theorem HI.iH (h:HI H held s0):H.live.length<=1000000:=by
 have m:(H.live.map λe=>e.1.toNat).Nodup:=by
  have u:=kj.1 h.lk;refine kj.2 λi j g r d e=>?_;have b:i<H.live.length:=by simpa using g
  have a:j<H.live.length:=by simpa using r
  refine u i j (by simpa using b) (by simpa using a) d ?_;simp only[sE]at e ⊢;have w:=(h.jk (zc b)).2.1;have z:=(h.jk (zc a)).2.1;omega
 have:=Cg 270000 _ m λx s=>by
  obtain⟨e,p,rfl⟩:=zC.1 s;have:=h.jk p;omega
 have y:(H.live.map λe=>e.1.toNat).length=H.live.length:=by simp
 omega
theorem cR.tg {B:Nat}{s:Sl}{xs:List Value}(h:nJ B σ s xs):cR s 1 xs σ (λb=>B<=b):=by
 refine⟨by have:=h.1;omega,?_⟩;rcases h.2 with⟨h0,_⟩|⟨b,cs,hb,ha,hk,hc⟩
 ·exact .inl h0
 ·exact .inr ⟨b,0,cs,hb,ha,hk.q,λj a=>by rw[zG];exact hc j a⟩
set_option maxRecDepth 8000 in
theorem Dg (h:HH σ F L H)(hi:HI H held s0){R:Sl->Hp->Prop}(hR:∀s σ' bs,bO σ σ'->iU H.live bs->bR s 4 (jg bs) σ' (λb=>σ.size<=b)->R s σ'):Y7.c (aW L.p) σ R:=by
 refine Y7.o ?_;unfold Y7.v;have B:∀x∈H.live,Go.Bu.lS x.1:=λx d=>by have:=hi.jk d;unfold Go.Bu.lS;omega
 have V:=hi.iH;refine Kx h (cG rfl (aG (h.hd.rM rfl (RD _ ?_))));have e1:bO σ (σ.push (.cells #[.map (some L.lm)] Bi (0,0))):=Ext.push _ _ _;have J:=h.bK e1;refine OI (by unfold cell;simp) J.kG B V λs y ss S G C hs=>?_;have Q:=e1.trans S;have A:=cR.tg hs;have U:ss.Nodup:=G.nodup_iff.2 hi.lk;have u:ss.length=H.live.length:=by rw[G.length_eq];simp
 have hsl:s.len=ss.length:=by have:=A.1;simp at this;omega
 have E:∀x∈ss,∃b,bV H.live x=some b/\b.1=x:=λx d=>by
  obtain⟨e,he,rfl⟩:=zC.1 (G.mem_iff.1 d);exact⟨e.2,Vf hi.lk he,(hi.lv e he).1⟩
 let f:Int->Bk:=λx=>(bV H.live x).getD (0,0,0,0)
 have r:∀x∈ss,(f x).1=x/\bV H.live x=some (f x):=λx d=>by
  obtain⟨b,g,M⟩:=E x d;have:f x=b:=by show(bV H.live x).getD _=b;rw[g];rfl
  rw[this];exact⟨M,g⟩
 have hz1:σ.size<y.size:=by
  have J:=S.1;have Y:(σ.push (.cells #[.map (some L.lm)] Bi (0,0))).size=σ.size+1:=by simp
  omega
 refine Ko (a:=.s) (bb:=bN) (λ(out:Sl) (z:Int) w=>∃i:Nat,z=i/\i<=ss.length/\bO y w/\bR out 4 (jg ((ss.take i).map f)) w (λb=>y.size<=b)) (λ_ z _=>ss.length-z.toNat) ⟨0,rfl,O,Ext.refl _ _,⟨by simp[jg],.inl ⟨rfl,rfl⟩⟩⟩ ?_;rintro(out:Sl) (z:Int) w ⟨i,rfl,hil,ew,hr⟩;have X:=J.bK (S.trans ew);refine cI (λD=>?_) λhge=>?_
 ·have d:ss[i]?=some (ss[i]' O):=cM _;have hol:out.len=i:=by have:=hr.1;rw[HC]at this;simp at this;omega
  refine(aH.bK (aH.cut A) ew).pK d (aG (X.hd.rM rfl ⟨H.live,X.kG,?_⟩));refine hr.push (F:=λb=>y.size<=b) (vs:=m5 (f (ss[i]' O))) (λb g=>by have:=ew.1;omega) rfl rfl (by simp[m5,dN]) O O λs' w' Z W K=>?_;have e3:bO y w':=Ext.fresh ew W λb g=>g;refine cA (m:=i+1) O O ⟨⟨i+1,rfl,O,e3,?_⟩,O⟩;have:jg ((ss.take (i+1)).map f)=jg ((ss.take i).map f)++m5 (f (ss[i]' O)):=by
   unfold jg;rw[zg,d,zr,C2];simp only[tf,zJ,oY,mS,List.flatMap_nil,j8]
  rw[this];exact K
 ·have P:i=ss.length:=by omega
  subst P;rw[zn]at hr;refine hR out w (ss.map f) (Q.trans ew) ⟨by simp[u],λb=>?_,?_⟩ (aI.mono hr λb _ g=>by
   show σ.size<=b;have g:y.size<=b:=g;omega)
  ·constructor
   ·intro g;obtain⟨x,d,rfl⟩:=zC.1 g;obtain⟨q1,q2⟩:=r x d;rw[q1];exact KA q2
   ·intro g;have d:b.1∈ss:=G.mem_iff.2 (zC.2 ⟨_,g,rfl⟩);refine zC.2 ⟨b.1,d,?_⟩;have:=(r _ d).2;rw[Vf hi.lk g]at this;exact(Option.some.inj this).symm
  ·rw[qD];have D:ss.Pairwise (· < ·):=(C.and U).imp λ⟨J,Y⟩=>by
    have:_≠_:=Y;omega
   refine kj.2 λi j hi hj N=>?_;rw[(r _ (zc hi)).1,(r _ (zc hj)).1];exact kj.1 D i j hi hj N
theorem Il {s:Sl}{bs:List Bk}(hs:cR s 4 (jg bs) σ F){i:Nat}{b:Bk}(hb:bs[i]?=some b){K:Addr->Prop}(hK:∀bb o,(∀(j:Nat) v,(m5 b)[j]?=some v->cell σ ⟨bb,o+j,none⟩=some v)->K ⟨bb,o,none⟩):Ix s.a s.len (i:Int) 4 K:=by
 have m:=(cQ.1 hb).1;have u:s.len=bs.length:=by have:=hs.1;rw[HC]at this;omega
 obtain⟨bb,o,e,r⟩:=hs.cell (BA hb (j:=0) rfl);rw[e];refine ix O O ?_;rw[add_lit,dC];refine hK bb _ λj v p=>?_;obtain⟨w,x,d,g⟩:=hs.cell (BA hb p);rw[e]at d;cases d;rw[←g];congr 2;omega
end Go.Ar
namespace Go.Ar
open Go.Bu (iR)
variable {W:Wd}{k:Nat}{A:AR}
def Ah {α:Type}(f:bW->α->Nat)(tb:List bW)(l:List α)(j:Nat):Nat:=match tb[j]?,l[j]? with
 | some c,some a=>f c a
 | _,_=>0
theorem LV {α:Type}{f:bW->α->Nat}{tb:List bW}{l:List α}{j:Nat}{c:bW}{a:α}(h1:tb[j]?=some c)(h2:l[j]?=some a):Ah f tb l j=f c a:=by unfold Ah;rw[h1,h2]
theorem Ii {α:Type}(f:bW->α->Nat):∀(tb:List bW) (l:List α),l.length=tb.length->((tb.zip l).map λx=>f x.1 x.2).sum=((List.range tb.length).map (Ah f tb l)).sum
 | [],l,h=>by simp
 | c::tb,[],h=>by simp at h
 | c::tb,a::l,h=>by
  have ih:=Ii f tb l (by simpa using h);rw[CQ,zJ,zj,ih,zP,zv,zJ,zj,zm];rfl
def qH (c:bW)(ss:List cH):List Nat:=ss.flatMap λs=>(List.range c.aF).map (s.st + ·)
theorem MD (c:bW)(ss:List cH):(qH c ss).length=ss.length*c.aF:=by
 induction ss with
 | nil=>simp[qH]
 | cons s ss ih=>
  have e:qH c (s::ss)=(List.range c.aF).map (s.st + ·)++qH c ss:=rfl;rw[e,zK,ih];simp[zl];omega
theorem CI {c:bW}{ss:List cH}{p:Nat}:p∈qH c ss↔sC c ss p:=by
 simp only[qH,qX,zC,zU,sC];constructor
 ·rintro⟨s,hs,i,hi,rfl⟩;exact⟨s,hs,O,O⟩
 ·rintro⟨s,hs,h1,h2⟩;exact⟨s,hs,p-s.st,O,O⟩
theorem NS {c:bW}{ss:List cH}(h:ss.Pairwise λa b=>a.st+c.aF<=b.st):(qH c ss).Nodup:=by
 induction ss with
 | nil=>exact qJ
 | cons s ss ih=>
  have g:=mM.1 h;have e:qH c (s::ss)=(List.range c.aF).map (s.st + ·)++qH c ss:=rfl;rw[e,og];refine⟨?_,ih g.2,λa j b r e=>?_⟩
  ·exact List.Pairwise.map (R:=(· ≠ ·)) _ (λa b d e=>d O) xf
  ·subst e;obtain⟨i,m,rfl⟩:=zC.1 j;obtain⟨t,p,u,w⟩:=CI.1 r;have:=g.1 t p;have:=zU.1 m;omega
def rR (l:List (Nat×Nat)):List Nat:=l.flatMap λr=>(List.range r.2).map (r.1 + ·)
theorem Wn5 (l:List (Nat×Nat)):(rR l).length=(l.map (·.2)).sum:=by
 induction l with
 | nil=>rfl
 | cons r l ih=>
  have e:rR (r::l)=(List.range r.2).map (r.1 + ·)++rR l:=rfl;rw[e,zK,ih];simp
theorem BE {l:List (Nat×Nat)}{p:Nat}:p∈rR l↔iM l p:=by
 simp only[rR,qX,zC,zU,iM];constructor
 ·rintro⟨s,hs,i,hi,rfl⟩;exact⟨s,hs,O,O⟩
 ·rintro⟨s,hs,h1,h2⟩;exact⟨s,hs,p-s.1,O,O⟩
theorem NG {l:List (Nat×Nat)}(h:l.Pairwise λa b=>a.1+a.2<=b.1\/b.1+b.2<=a.1):(rR l).Nodup:=by
 induction l with
 | nil=>exact qJ
 | cons s ss ih=>
  have g:=mM.1 h;have e:rR (s::ss)=(List.range s.2).map (s.1 + ·)++rR ss:=rfl;rw[e,og];refine⟨?_,ih g.2,λa j b r e=>?_⟩
  ·exact List.Pairwise.map (R:=(· ≠ ·)) _ (λa b d e=>d O) xf
  ·subst e;obtain⟨i,m,rfl⟩:=zC.1 j;obtain⟨t,p,u,w⟩:=BE.1 r;have:=g.1 t p;have:=zU.1 m;omega
theorem FQ {n:Nat}{l:List Nat}(hn:l.Nodup)(hl:∀x∈l,x<n){f:Nat->Bool}(hf:∀p,p<n->(f p=true↔p∈l)):(List.range n).countP f=l.length:=by
 rw[wq];refine List.Perm.length_eq ?_;rw[wL (List.nodup_range.filter _) hn];intro x;rw[zH,zU];exact⟨λ⟨a,b⟩=>(hf x a).1 b,λd=>⟨hl x d,(hf x (hl x d)).2 d⟩⟩
theorem Ox (ga:GA A):Uc A+Ug A+iR A.n A.S=(List.range A.n).countP λ(p:Nat)=>US A (p:Int):=by
 have key:∀m,m<=A.tb.length->(List.range A.n).countP (λp=>A.ow p != 0&&decide (A.ow p<=m))=((List.range m).map (Ah (λc b=>b.length*c.aF) A.tb A.cC)).sum:=by
  intro m
  induction m with
  | zero=>
   intro _;simp
  | succ m ih=>
   intro hm;rw[j7,zr,pR,←ih O,List.map_singleton,List.sum_singleton];obtain⟨c,b,t,i,_⟩:=ga.cl (k:=m) O;have H:=ga.cC m c b i;rw[LV i.1 i.2,←MD c b,←FQ (n:=A.n) (NS H.sD) (λx d=>by
    obtain⟨s,g,a,e⟩:=CI.1 d;exact ga.pg.lt (by rw[(ga.used i g a e).1];omega)) (f:=λp=>A.ow p==m+1) (λp _=>by rw[CI,←ga.ow m c b i p];simp)]
   symm
   apply Go.Bu.im;intro p _;by_cases a:A.ow p=m+1
   ·simp[a]
   ·by_cases e:A.ow p<=m
    ·have:(A.ow p==m+1)=false:=by simpa using a
     have y:decide (A.ow p<=m+1)=true:=by simp;omega
     simp[this,e,y]
    ·have:(A.ow p==m+1)=false:=by simpa using a
     have y:¬A.ow p<=m+1:=by omega
     simp[this,e,y]
 have D:=key A.tb.length (zD _);have L:Uc A=(List.range A.n).countP (λp=>A.ow p != 0&&decide (A.ow p<=A.tb.length)):=by
  rw[D];unfold Uc;rw[Ii (λc b=>b.length*c.aF) A.tb A.cC ga.lc]
 have G:Ug A=(List.range A.n).countP (λp=>A.ow p==41):=by
  unfold Ug;rw[←Wn5,FQ (NG ga.jR) (λx d=>by
   obtain⟨r,z,a,e⟩:=BE.1 d;exact ga.pg.lt (by rw[(ga.jr z a e).1];omega)) (f:=λp=>A.ow p==41) (λp _=>by rw[BE,←ga.jm];simp)]
 have C:=ga.tb;have E:(List.range A.n).countP (λp=>A.ow p != 0&&decide (A.ow p<=A.tb.length))+(List.range A.n).countP (λp=>A.ow p==41)=(List.range A.n).countP (λp=>A.ow p != 0):=by
  apply Go.Bu.im;intro p _;rcases ga.pa p with a|a
  ·have:¬A.ow p<=A.tb.length:=by omega
   simp[a];omega
  ·have:(A.ow p==41)=false:=by simp;omega
   simp[this,a]
 have K:(List.range A.n).countP (λp=>A.ow p != 0)+(List.range A.n).countP A.S=(List.range A.n).countP λ(p:Nat)=>US A (p:Int):=by
  apply Go.Bu.im;intro p _;have u:=ga.pg.us p;have g:=ga.pg.fr p;have B:US A (p:Int)=decide (A.f p≠0):=by
   unfold US AR.f gf;rw[zW (show(0:Int)<=p by omega),vI,dC]
  rw[B];have F:=ga.pg.le p;by_cases h0:A.f p=0
  ·have:A.ow p=0:=Classical.byContradiction λw=>by have:=u.2 w;omega
   have j:A.S p=false:=by apply mL.2;intro d;have:=g.1 d;omega
   simp[h0,this,j]
  ·by_cases a:A.f p=1
   ·have J:=u.1 a;have j:A.S p=false:=by apply mL.2;intro d;have:=g.1 d;omega
    simp[a,J,j]
   ·have:A.ow p=0:=Classical.byContradiction λw=>a (u.2 w);have j:A.S p=true:=g.2 O;simp[h0,this,j]
 unfold iR;rw[L,G,E,K]
theorem Dy (ga:GA A):Ug A<=1024:=by
 have b:=Ox ga;have a:(List.range A.n).countP (λ(p:Nat)=>US A (p:Int))<=A.n:=by
  refine zI vt ?_;rw[oK];exact zD _
 have:=ga.pg.n2;omega
end Go.Ar
namespace Go.Ar
open Go Go.Vc Go.Proofs
open Go.Vc (bV dF cT)
open Go.Bu (iR)
variable {σ v w w':Hp}{F P Q X:Rg}{L:dS}{H H':Hw}{held:List Pc}{s0:Sp}{t n:Nat}{g:Th}{nb sb m:Nat}{x:List Int}
def l7 (b:Bk):Int:=if 0<=b.2.2.1 then b.2.1 else 0
def HJ (l:List (Int×Bk)):Int:=(l.map λe=>l7 e.2).sum
def V2 (H:Hw):Nat:=(H.bQ.map λg=>Qt H.tb g.ls).sum
def Ve (f:AR->Nat)(H:Hw):Nat:=(H.bT.map f).sum
def VD (A:AR):Nat:=iR A.n A.S
theorem FV {α:Type}(f:α->Int):∀{l:List (Int×α)} {n:Int} {x:α},(l.map (·.1)).Nodup->(n,x)∈l->(l.map λe=>f e.2).sum=f x+((l.filter λy=>!(y.1==n)).map λe=>f e.2).sum
 | [],_,_,_,h=>by simp at h
 | y::l,n,x,hn,h=>by
  simp only[zJ,zq]at hn;rcases zQ.1 h with h1|h1
  ·subst h1;have:l.filter (λy=>!(y.1==n))=l:=by
    rw[nT];intro z hz;have:z.1≠n:=λe=>hn.1 (zC.2 ⟨z,hz,e⟩);simpa using this
   rw[uo aA,this];simp
  ·have a:y.1≠n:=λe=>hn.1 (zC.2 ⟨_,h1,e.symm⟩);rw[tj (by simpa using a)];simp only[zJ,zj];rw[FV f hn.2 h1];omega
theorem VG {α:Type}{f:α->Int}{c:Int}:∀{l:List α},(∀e∈l,0<=f e/\f e<=c)->0<=(l.map f).sum/\(l.map f).sum<=l.length*c
 | [],_=>by simp
 | a::l,h=>by
  have h1:=h a lf;have d:=VG λe b=>h e (kM _ b);simp only[zJ,zj,zP,Int.natCast_add,Int.add_mul];omega
theorem Cc (hi:HI H held s0){e:Int×Bk}(he:e∈H.live):0<=l7 e.2/\l7 e.2<=270000:=by
 have:=hi.jk he;unfold l7;split<;>omega
theorem Fk {α:Type}(f:α->Nat){l:List α}{i:Nat}{a:α}(h:l[i]?=some a):((l.take (i+1)).map f).sum=((l.take i).map f).sum+f a:=by
 rw[zg,h];simp
theorem PB {α:Type}{f:α->Nat}{c:Nat}{l:List α}(h:∀a∈l,f a<=c):(l.map f).sum<=l.length*c:=by
 induction l with
 | nil=>simp
 | cons a l ih=>
  have g:=h a lf;have d:=ih λe b=>h e (kM _ b);simp only[zJ,zj,zP,zl];omega
theorem Ry {α:Type}{f:α->Nat}{c:Nat}{l:List α}(h:∀a∈l,f a<=c)(i:Nat):((l.take i).map f).sum<=i*c:=
 zI (PB λa b=>h a (mK b)) (lN c (by rw[zO];omega))
def V9:List Value:=[.int .i64 0,.int .i64 0,.int .i64 0,.int .i64 0,.int .i64 0,.int .i64 0,.int .i64 0,.int .i64 0,.int .i64 0,.int .i64 0,.int .i64 0]
structure lL (σ:Hp) (nb sb:Nat) (v:Hp) (x:List Int):Prop where
 e:bO σ v
 n:bX v nb V9
 s:bX v sb (x.map (Value.int .i64))
 h1:σ.size<=nb
 h2:σ.size<=sb
 h3:nb≠sb
 hl:x.length=11
theorem lL.fr (h:lL σ nb sb v x)(e:bO v w):lL σ nb sb w x:=⟨h.e.trans e,e.bZ h.n id,e.bZ h.s id,h.h1,h.h2,h.h3,h.hl⟩
theorem lL.own (h:lL σ nb sb v x)(o:QC v w m)(h4:v.size<=m\/m≠nb/\m≠sb/\σ.size<=m):lL σ nb sb w x:=by
 have d:=h.n.lt;have j:=h.s.lt;have g:=h.e.1;exact⟨Ext.fresh h.e o.ext λi (b:i=m)=>O,o.ext.bZ h.n λ(a:nb=m)=>O,o.ext.bZ h.s λ(a:sb=m)=>O,h.h1,h.h2,h.h3,h.hl⟩
theorem lL.rd (h:lL σ nb sb v x){i:Nat}{y:Int}(hy:x[i]?=some y){K:Int->Prop}(hK:K y):fJ .i64 (Addr.add ⟨sb,0,none⟩ i) v K:=
 h.s.rI (by rw[zG,ze,hy];rfl) hK
theorem lL.st (h:lL σ nb sb v x){i:Nat}{y:Int}(hi:i<11){K:aP}(hK:∀w,Ext (· = sb) v w->lL σ nb sb w (x.set i y)->K w):dG (Addr.add ⟨sb,0,none⟩ i) (.int .i64 y) v K:=by
 have hl:=h.hl;refine h.s.s1 (by rw[za];omega) λw o b=>hK w o.ext ⟨Ext.fresh h.e o.ext λi (hi:i=sb)=>by have:=h.h2;omega,o.ext.bZ h.n λ(a:nb=sb)=>h.h3 a,?_,h.h1,h.h2,h.h3,by rw[oP,hl]⟩;rw[zG,←ue]at b;exact b
theorem Oo {K:eP [.ad]}{body:eP [.ad]->Prop}(P:Addr->Hp->Prop)(h1:∀r w,P r w->K r w)(h2:∀J:eP [.ad],(∀r w,P r w->J r w)->body J):Jn [.ad] K body:=Jn.intro (h2 K h1)
theorem ik.re {s:Sl}(h:ik s [] σ F):s.len=0:=by have:=h.len;simpa using this
theorem HH.Θ (h:HH σ F L H){x:eB}(hx:L.ts[t]?=some x)(hg:H.bQ[t]?=some g):ik x.h g.bP σ F:=by
 obtain⟨G,d,a⟩:=h.sep.get (.hn t);simp only[CH,hx,hg,pf]at a;exact dR.mono (ik.loc _ _) a λb _ a=>d b a
theorem HH.TL (h:HH σ F L H){x:eB}(hx:L.ts[t]?=some x)(hg:H.bQ[t]?=some g):eD σ F x.c H.tb H.cf.dB g.ls:=by
 obtain⟨G,d,a⟩:=h.sep.get (.ca t);simp only[CH,hx,hg,qf]at a;exact dR.mono eD.loc a λb _ a=>d b a
theorem Bb {A:AR}(ga:GA A):VD A<=1024:=by
 have a:VD A<=A.n:=by
  unfold VD iR;refine zI vt ?_;rw[oK];exact zD _
 have:=ga.pg.n2;omega
theorem lL.Κ (h:lL σ nb sb v x){i:Nat}{y:Int}(hy:x[i]?=some y){K:Int->Prop}(hK:K y):gP (λm=>bO v m) bN (Addr.add ⟨sb,0,none⟩ i) K:=
 ⟨y,λm a=>by rw[add_lit,(Ext.bZ a h.s id).cell,zG,ze,hy];rfl,hK⟩
theorem bX.rH {b i:Nat}{cs:List Value}{c:CK}{y:c.T}(hb:bX v b cs)(hc:cs[i]?=some (c.v y)){K:c.T->Prop}(hK:K y):gP (λm=>bO v m) c (Addr.add ⟨b,0,none⟩ i) K:=
 ⟨y,λm a=>by rw[add_lit,(Ext.bZ a hb id).cell,zG];exact hc,hK⟩
theorem uc {b:Nat}(hb:bX v b V9)(a0 a1 a2 a3 a4 a5 a6 a7 a8 a9 a10:Int){K:aP}(hK:∀w,Ext (· = b) v w->bX w b ([a0,a1,a2,a3,a4,a5,a6,a7,a8,a9,a10].map (Value.int .i64))->K w) :
 dG (Addr.add ⟨b,0,none⟩ 0) (.int .i64 a0) v λv57=>dG (Addr.add ⟨b,0,none⟩ 1) (.int .i64 a1) v57 λv58=>dG (Addr.add ⟨b,0,none⟩ 2) (.int .i64 a2) v58 λv59=>dG (Addr.add ⟨b,0,none⟩ 3) (.int .i64 a3) v59 λv60=>
 dG (Addr.add ⟨b,0,none⟩ 4) (.int .i64 a4) v60 λv61=>dG (Addr.add ⟨b,0,none⟩ 5) (.int .i64 a5) v61 λv62=>dG (Addr.add ⟨b,0,none⟩ 6) (.int .i64 a6) v62 λv63=>dG (Addr.add ⟨b,0,none⟩ 7) (.int .i64 a7) v63 λv64=>
 dG (Addr.add ⟨b,0,none⟩ 8) (.int .i64 a8) v64 λv65=>dG (Addr.add ⟨b,0,none⟩ 9) (.int .i64 a9) v65 λv66=>dG (Addr.add ⟨b,0,none⟩ 10) (.int .i64 a10) v66 K:=by
 unfold V9 at hb;refine hb.s1 aA λF o1 j=>j.s1 aA λE o2 p=>p.s1 aA λv3 o3 r=>r.s1 aA λG o4 y=>y.s1 aA λD o5 z=>z.s1 aA λC o6 s=>s.s1 aA λA o7 m=>m.s1 aA λB o8 u=>u.s1 aA λH o9 i=>i.s1 aA λx fV e=>e.s1 aA λg a d=>?_;exact hK g ((((((((((o1.ext.trans o2.ext).trans o3.ext).trans o4.ext).trans o5.ext).trans o6.ext).trans o7.ext).trans o8.ext).trans o9.ext).trans fV.ext).trans a.ext) d
theorem lL.fin {a0 a1 a2 a3 a4 a5 a6 a7 a8 a9 a10:Int}(B:lL σ nb sb v [a0,a1,a2,a3,a4,a5,a6,a7,a8,a9,a10]){R:Int->Int->Int->Int->Int->Int->Int->Int->Int->Int->Int->Hp->Prop}(hR:∀w,bO σ w->R a0 a1 a2 a3 a4 a5 a6 a7 a8 a9 a10 w) :
 fJ .i64 (Addr.add ⟨sb,0,none⟩ 0) v λt0=>fJ .i64 (Addr.add ⟨sb,0,none⟩ 1) v λt1=>fJ .i64 (Addr.add ⟨sb,0,none⟩ 2) v λt2=>fJ .i64 (Addr.add ⟨sb,0,none⟩ 3) v λt3=>fJ .i64 (Addr.add ⟨sb,0,none⟩ 4) v λt4=>
 fJ .i64 (Addr.add ⟨sb,0,none⟩ 5) v λt5=>fJ .i64 (Addr.add ⟨sb,0,none⟩ 6) v λt6=>fJ .i64 (Addr.add ⟨sb,0,none⟩ 7) v λt7=>fJ .i64 (Addr.add ⟨sb,0,none⟩ 8) v λt8=>fJ .i64 (Addr.add ⟨sb,0,none⟩ 9) v λt9=>fJ .i64 (Addr.add ⟨sb,0,none⟩ 10) v λt10=>
 dG (Addr.add ⟨nb,0,none⟩ 0) (.int .i64 t0) v λv57=>dG (Addr.add ⟨nb,0,none⟩ 1) (.int .i64 t1) v57 λv58=>dG (Addr.add ⟨nb,0,none⟩ 2) (.int .i64 t2) v58 λv59=>dG (Addr.add ⟨nb,0,none⟩ 3) (.int .i64 t3) v59 λv60=>
 dG (Addr.add ⟨nb,0,none⟩ 4) (.int .i64 t4) v60 λv61=>dG (Addr.add ⟨nb,0,none⟩ 5) (.int .i64 t5) v61 λv62=>dG (Addr.add ⟨nb,0,none⟩ 6) (.int .i64 t6) v62 λv63=>dG (Addr.add ⟨nb,0,none⟩ 7) (.int .i64 t7) v63 λv64=>
 dG (Addr.add ⟨nb,0,none⟩ 8) (.int .i64 t8) v64 λv65=>dG (Addr.add ⟨nb,0,none⟩ 9) (.int .i64 t9) v65 λv66=>dG (Addr.add ⟨nb,0,none⟩ 10) (.int .i64 t10) v66 λv67=>
 fJ .i64 (Addr.add ⟨nb,0,none⟩ 0) v67 λt0=>fJ .i64 (Addr.add ⟨nb,0,none⟩ 1) v67 λt1=>fJ .i64 (Addr.add ⟨nb,0,none⟩ 2) v67 λt2=>fJ .i64 (Addr.add ⟨nb,0,none⟩ 3) v67 λt3=>fJ .i64 (Addr.add ⟨nb,0,none⟩ 4) v67 λt4=>
 fJ .i64 (Addr.add ⟨nb,0,none⟩ 5) v67 λt5=>fJ .i64 (Addr.add ⟨nb,0,none⟩ 6) v67 λt6=>fJ .i64 (Addr.add ⟨nb,0,none⟩ 7) v67 λt7=>fJ .i64 (Addr.add ⟨nb,0,none⟩ 8) v67 λt8=>fJ .i64 (Addr.add ⟨nb,0,none⟩ 9) v67 λt9=>fJ .i64 (Addr.add ⟨nb,0,none⟩ 10) v67 λt10=>
 R t0 t1 t2 t3 t4 t5 t6 t7 t8 t9 t10 v67:=by
 refine B.rd rfl (B.rd rfl (B.rd rfl (B.rd rfl (B.rd rfl (B.rd rfl (B.rd rfl (B.rd rfl (B.rd rfl (B.rd rfl (B.rd rfl (uc B.n a0 a1 a2 a3 a4 a5 a6 a7 a8 a9 a10 λw e b=>?_)))))))))));refine b.rI rfl (b.rI rfl (b.rI rfl (b.rI rfl (b.rI rfl (b.rI rfl (b.rI rfl (b.rI rfl (b.rI rfl (b.rI rfl (b.rI rfl (hR w ?_)))))))))));exact Ext.fresh B.e e λi (a:i=nb)=>by have:=B.h1;omega
theorem HH.BO (h:HH σ F L H){x:eB}(hx:L.ts[t]?=some x)(hg:H.bQ[t]?=some g){ty:Nat}{K:Addr->Hp->Prop}(hK:∀v,bO σ v->σ.size<v.size->bX v σ.size (jM (x,g))->K ⟨σ.size,0,none⟩ v) :
 Ix L.cL.a L.cL.len (t:Int) 3 λa58=>fW (a58.add 0) σ λt59=>jn (a58.add 1) σ λt591=>wZ (a58.add 2) σ λt592=>
  Nw (.cells #[.pointer none,.slice none 0 0,.nilIface] ty (0,0)) σ λn7 v17=>O1 t592<|dG (n7.add 0) (.pointer t59) v17 λv18=>dG (n7.add 1) (.slice t591.a t591.len t591.cap) v18 λv19=>dG (n7.add 2) t592 v19 λv20=>K n7 v20:=by
 obtain⟨b,o,r,E⟩:=Uj h.kr hx hg (d:=0) O rfl;obtain⟨N,o1,e,G⟩:=Uj h.kr hx hg (d:=1) O rfl;obtain⟨u,o2,j,z⟩:=Uj h.kr hx hg (d:=2) O rfl;rw[r]at e j;cases e;cases j;have Q:=h.jf;have R:=(cQ.1 hg).1;rw[r];refine ix O O ?_;rw[add_lit,show o+(t:Int).toNat*3=o+3*t by omega];refine uD (by rw[add_lit,qn];exact E) (oh (by rw[add_lit,qn];exact G) ⟨_,by rw[add_lit,qn];exact z,?_⟩);refine nw (cs:=[.pointer none,.slice none 0 0,.nilIface]) λP w B u=>?_;have y:∀{A:Prop},A->O1 (nu g.ph) A:=λ{A} s=>by
  cases g.ph with
  | none=>exact s
  | some p=>cases p<;>exact s
 refine y (u.s1 aA λv3 o3 C=>C.s1 aA λS o4 J=>J.s1 aA λD o5 M=>?_);exact hK D (Ext.fresh (Ext.fresh (Ext.fresh B o3.ext λi m=>O) o4.ext λi m=>O) o5.ext λi m=>O) (by have:=o3.1;have:=o4.1;have:=o5.1;omega) M
structure wu (H:Hw):Prop where
 cache:V2 H<=20971520
 eA:Ve Ub H<=160000000000
 room:Ve qc H<=160000000000
 F5:Ve Ur H<=160000000000
 FC:Ve Uc H<=160000000000
 runs:Ve Ug H<=4096
 free:Ve VD H<=4096
set_option maxRecDepth 16000 in
theorem J5 (h:HH σ F L H)(hi:HI H held s0)(hh:∀g∈H.bQ,g.bP=[]){R:Int->Int->Int->Int->Int->Int->Int->Int->Int->Int->Int->Hp->Prop}
 (hR:∀σ',bO σ σ'->wu H->R (HJ H.live) (V2 H:Nat) 0 (Ve Ub H:Nat) (Ve qc H:Nat) (Ve Ur H:Nat) (Ve Ug H*256:Nat) (Ve Uc H:Nat) (Ve VD H:Nat) (VK H.sp.st:Nat) (H.sp.st.count 2:Nat) σ'):YT.c (aW L.p) σ R:=by
 refine YT.o ?_;unfold YT.v;refine nw (cs:=V9) λv hz e hb=>Kx (h.bK e) (cG rfl ?_);have hv:=h.bK e;generalize hm0:((VK H.sp.st:Nat):Int)=M at hR;generalize hd0:((H.sp.st.count 2:Nat):Int)=D at hR;refine Oo (λs w=>∃d,s=⟨d,0,none⟩/\lL σ σ.size d w [0,0,0,0,0,0,0,0,0,M,D]) (λs w ⟨d,hs,B⟩=>?_) λJ hJ=>?_
 ·subst hs;have hw:=h.bK B.e;have B0:=B;refine aG (hw.hd.rM rfl ?_);have hml:=hw.kG;have hll:=hi.iH;refine vP (c:=.ag 4) hml (λ(b:List (Int×Bk)) u=>∃z:Int,lL σ σ.size d u [z,0,0,0,0,0,0,0,0,M,D]/\(b.map (·.1)).Nodup/\(∀y∈b,y∈H.live)/\0<=z/\z+(b.map λe=>l7 e.2).sum=HJ H.live) (λu hz eu=>⟨0,B.fr eu,hml.nodup,λy hy=>hy,O,by rw[Int.zero_add];rfl⟩) (λu ⟨z,B,_,_,_,hz⟩=>?_) ?_
  ·have hz':z=HJ H.live:=by simpa using hz
   subst hz';have hu:=h.bK B.e;have ht2:=h.s.t2;refine aG (hu.hd.rS rfl ?_);refine ZU (a:=bN) (λ(i:Int) u=>∃k:Nat,i=k/\k<=H.bQ.length/\lL σ σ.size d u [HJ H.live,(((H.bQ.take k).map λg=>Qt H.tb g.ls).sum:Nat),0,0,0,0,0,0,0,M,D]/\((H.bQ.take k).map λg=>Qt H.tb g.ls).sum<=k*5242880) (λi _=>H.bQ.length-i.toNat) ⟨0,rfl,O,by simpa using B,by simp⟩ ?_;rintro(i:Int) u1 ⟨k,rfl,hk,B,hsum⟩;have h1:=h.bK B.e;have htl:=h1.jf;refine cI (λU=>?_) λhge=>?_
   ·have V:k<H.bQ.length:=by simp only at U;omega
    obtain⟨x,g,N,W⟩:=h1.th V;have hsb:=B.s.lt;refine h1.BO N W λv1 e1 hlt1 b1=>?_;have B1:=B.fr e1;have h2:=h1.bK e1;have hca:=h2.TL N W;have hby:=EY hca hca.EV;have hnl:=h2.Θ N W;rw[hh g (zE W)]at hnl;refine⟨λm=>bO v1 m,Ext.refl _ _,B1.Κ rfl (bX.rH (c:=.p) (y:=some ⟨x.c.p,0,none⟩) b1 rfl (BF hca λv2 e2=>⟨e2,?_⟩))⟩;have B2:=B1.fr e2;have b2:=e2.bZ b1 id;have hs:=Fk (λg=>Qt H.tb g.ls) W;refine cA (m:=((H.bQ.take (k+1)).map λg=>Qt H.tb g.ls).sum) (by rw[hs];simp) (by rw[hs];omega) (B2.st O λv3 e3 B3=>?_);have b3:=e3.bZ b2 (λ(N:u1.size=d)=>O);refine b3.rS rfl (ZU (a:=bN) (λ(c:Int) w=>w=v3/\c=0) (λ_ _=>0) ⟨rfl,rfl⟩ ?_);rintro(c:Int) w ⟨rfl,rfl⟩;refine cI (λhl=>?_) λ_=>cA (m:=k+1) O O ⟨⟨k+1,rfl,O,B3,by rw[hs];omega⟩,O⟩;have:=hnl.re;simp only at hl;omega
   ·have X:k=H.bQ.length:=by simp only at hge;omega
    subst X;rw[zn]at B hsum;have hsum':V2 H<=20971520:=by unfold V2;omega
    have ha2:=h.s.a2;refine aG (h1.hd.rS rfl ?_);have G:∀A∈H.bT,GA A:=λA j=>by obtain⟨k,hk⟩:=zN j;exact hi.wi.ga k A hk
    let P (f:AR->Nat) (k:Nat):Nat:=((H.bT.take k).map f).sum
    have hP:∀(f:AR->Nat) {k:Nat} {A:AR},H.bT[k]?=some A->P f (k+1)=P f k+f A:=λf _ _ j=>Fk f j;have Q:∀{f:AR->Nat} {c:Nat},(∀A∈H.bT,f A<=c)->∀k,P f k<=k*c:=λhf k=>Ry hf k;have C:∀f,P f H.bT.length=Ve f H:=λf=>by show((H.bT.take H.bT.length).map f).sum=_;rw[zn];rfl
    have E:∀f,P f 0=0:=λf=>by show((H.bT.take 0).map f).sum=0;simp
    clear_value P
    refine ZU (a:=bN) (λ(i:Int) u=>∃k:Nat,i=k/\k<=H.bT.length/\lL σ σ.size d u [HJ H.live,(V2 H:Nat),0,(P Ub k:Nat),(P qc k:Nat),(P Ur k:Nat),(P Ug k*256:Nat),(P Uc k:Nat),(P VD k:Nat),M,D]/\P Ub k<=k*40000000000/\P qc k<=k*40000000000/\P Ur k<=k*40000000000/\P Uc k<=k*40000000000) (λi _=>H.bT.length-i.toNat) ⟨0,rfl,O,?_⟩ ?_
    ·rw[E,E,E,E,E,E];exact⟨B,O,O,O,O⟩
    rintro(i:Int) u2 ⟨k,rfl,hk,B,l1,l2,l3,l4⟩;have h2:=h.bK B.e;have hal:=h2.jX;refine cI (λU=>?_) λhge=>?_
    ·have V:k<H.bT.length:=by simp only at U;omega
     have j:H.bT[k]?=some H.bT[k]:=cM _;generalize H.bT[k]=A at j;have ga:=G A (zE j);have r5:=Dy ga;have r6:=Bb ga;obtain⟨Y,hy,_,hAY⟩:=h2.ar j;refine h2.rA hy (WeI hAY O λv2 e2 ⟨r1,r2,r3,r4⟩=>?_);have B2:=B.fr e2;have s1:=hP Ub j;have s2:=hP qc j;have s3:=hP Ur j;have s4:=hP Uc j;have s5:=hP Ug j;have s6:=hP VD j;have l5:=Q (f:=Ug) (λA j=>Dy (G A j)) k;have l6:=Q (f:=VD) (λA j=>Bb (G A j)) k;have hfr:((iR A.n A.S:Nat):Int)=(VD A:Nat):=rfl;refine B2.rd rfl (cA (m:=P Ub (k+1)) (by rw[s1];simp) O (B2.rd rfl (cA (m:=P qc (k+1)) (by rw[s2];simp) O (B2.rd rfl (cA (m:=P Ur (k+1)) (by rw[s3];simp) O ?_)))));refine B2.st O λv3 _ B3=>B3.st O λv4 _ B4=>B4.st O λv5 _ B5=>?_;refine B5.rd rfl (cA (m:=P Uc (k+1)) (by rw[s4];simp) O (B5.rd rfl (cA (m:=Ug A*256) aA O (cA (m:=P Ug (k+1)*256) (by rw[s5,zl];simp) O (B5.rd rfl (cA (m:=P VD (k+1)) (by rw[s6,hfr];simp) O ?_))))));refine B5.st O λv6 _ B6=>B6.st O λv7 _ B7=>B7.st O λv8 _ B8=>?_;exact cA (m:=k+1) O O ⟨⟨k+1,rfl,O,B8,O,O,O,O⟩,O⟩
    ·have X:k=H.bT.length:=by simp only at hge;omega
     subst X;have l5:=Q (f:=Ug) (λA j=>Dy (G A j)) H.bT.length;have l6:=Q (f:=VD) (λA j=>Bb (G A j)) H.bT.length;rw[C]at l1 l2 l3 l4 l5 l6;rw[C,C,C,C,C,C]at B;exact B.fin λw e=>hR w e ⟨hsum',O,O,O,O,O,O⟩
  ·rintro(b:List (Int×Bk)) n (x:Bk) w1 w2 J1 ⟨z,B,hn,hin,hz0,hz⟩ N ho U hJ1;have hsb:=B0.s.lt;have hnb:=B0.n.lt;have hz2:=ho.1;have hlm:L.lm<σ.size:=h.kG.lt;have B2:=B.own ho (.inr ⟨O,O,O⟩);have hl:=hin _ N;have hdel:=FV l7 hn N;have K:∀y∈b.filter λy=>!(y.1==n),y∈H.live:=λy hy=>hin y (zH.1 hy).1;have hn':((b.filter λy=>!(y.1==n)).map (·.1)).Nodup:=hn.sublist (List.filter_sublist.map _);have hrest:=(VG (f:=λe:Int×Bk=>l7 e.2) (c:=270000) λe he=>Cc hi (K e he)).1;have hall:=(VG (l:=H.live) (f:=λe:Int×Bk=>l7 e.2) (c:=270000) λe he=>Cc hi he).2;have hst:(H.live.map λe:Int×Bk=>l7 e.2).sum=HJ H.live:=rfl;have hx0:=Cc hi hl;rw[hst]at hall;obtain⟨rs,Z⟩:∃rs,((b.filter λy=>!(y.1==n)).map λe:Int×Bk=>l7 e.2).sum=rs:=⟨_,rfl⟩;have hdel':(b.map λe:Int×Bk=>l7 e.2).sum=l7 x+rs:=by rw[←Z];exact hdel
   have hz':z+(b.map λe:Int×Bk=>l7 e.2).sum=HJ H.live:=hz;rw[Z]at hrest;have W:∀y:Int,y+rs=HJ H.live->y+((b.filter λy=>!(y.1==n)).map λe:Int×Bk=>l7 e.2).sum=HJ H.live:=λy hy=>by rw[Z];exact hy
   refine nw (cs:=[.int .i64 0,.int .i64 0,.int .i64 0,.int .i64 0]) λv2 hzv e2 b2=>b2.s1 aA λv3 o3 b3=>b3.s1 aA λv4 o4 b4=>b4.s1 aA λv5 o5 b5=>b5.s1 aA λv6 o6 b6=>?_;have e6:bO w2 v6:=Ext.fresh (Ext.fresh (Ext.fresh (Ext.fresh e2 o3.ext λi hi=>O) o4.ext λi hi=>O) o5.ext λi hi=>O) o6.ext λi hi=>by omega
   have B6:=B2.fr e6;refine b6.rI rfl (cI (λhpos=>B6.rd rfl (b6.rI rfl ?_)) λhneg=>?_)
   ·have hs:l7 x=x.2.1:=by unfold l7;exact zB hpos
    have hx1:0<=x.2.1/\x.2.1<=270000:=by rw[←hs];exact hx0
    refine ar O O (B6.st O λv7 e7 B7=>hJ1 v7 ?_ ?_ ⟨z+x.2.1,B7,hn',K,O,W _ O⟩)
    ·rw[e7.2 _ (by have:=e6.1;omega) (λ(N:w.size=d)=>O),e6.2 _ O id]
    ·rw[e7.2 _ (by have:=e6.1;omega) (λ(N:L.lm=d)=>by have:=B6.h2;omega),e6.2 _ O id]
   ·have hs:l7 x=0:=by unfold l7;exact zA hneg
    refine hJ1 v6 (e6.2 _ O id) (e6.2 _ O id) ⟨z,B6,hn',K,hz0,W _ O⟩
 ·have hS:dE v F L.hs H.sp:=hv.yh;have fin:∀w d,bO v w->bX w d V9->v.size<=d->dG (Addr.add ⟨d,0,none⟩ 0) (.int .i64 0) w λv57=>dG (Addr.add ⟨d,0,none⟩ 1) (.int .i64 0) v57 λv58=>dG (Addr.add ⟨d,0,none⟩ 2) (.int .i64 0) v58 λv59=>dG (Addr.add ⟨d,0,none⟩ 3) (.int .i64 0) v59 λv60=>
   dG (Addr.add ⟨d,0,none⟩ 4) (.int .i64 0) v60 λv61=>dG (Addr.add ⟨d,0,none⟩ 5) (.int .i64 0) v61 λv62=>dG (Addr.add ⟨d,0,none⟩ 6) (.int .i64 0) v62 λv63=>dG (Addr.add ⟨d,0,none⟩ 7) (.int .i64 0) v63 λv64=>
   dG (Addr.add ⟨d,0,none⟩ 8) (.int .i64 0) v64 λv65=>dG (Addr.add ⟨d,0,none⟩ 9) (.int .i64 M) v65 λv66=>dG (Addr.add ⟨d,0,none⟩ 10) (.int .i64 D) v66 λv67=>J ⟨d,0,none⟩ v67:=λw d r bw hsb=>by
   have hv1:=hb.lt;refine uc bw 0 0 0 0 0 0 0 0 0 M D λw' e' b'=>hJ _ w' ⟨d,rfl,Ext.fresh (e.trans r) e' (λi (hi:i=d)=>O),e'.bZ (r.bZ hb id) (λ(N:σ.size=d)=>O),b',zD _,O,O,rfl⟩
  refine⟨λm=>bO v m,Ext.refl _ _,aG (bX.rH (c:=.p) (y:=some ⟨L.hs,0,none⟩) hv.hd rfl (aG (bX.rH (c:=.p) (y:=some ⟨L.hs,0,none⟩) hv.hd rfl ⟨?_,?_⟩)))⟩
  ·refine F4 hS ⟨Ext.refl _ _,A9 hS ⟨Ext.refl _ _,?_⟩,?_⟩
   ·rw[hm0,hd0];exact nw (cs:=V9) λw hzw r bw=>⟨r,fin w _ r bw (zD _)⟩
   ·refine nw (cs:=V9) λw hzw r bw=>⟨r,A9 (hv.bK r).yh ⟨r,?_⟩⟩;rw[hm0,hd0];exact fin w _ r bw (zD _)
  ·refine nw (cs:=V9) λw hzw r bw=>⟨r,F4 (hv.bK r).yh ⟨r,A9 (hv.bK r).yh ⟨r,?_⟩⟩⟩;rw[hm0,hd0];exact fin w _ r bw (zD _)
end Go.Ar
namespace Go.Ar
open Go.Vc (bV dF cT)
def i63 (x:Int):Bool:=decide (x<=9223372036854775807)
def qh (H:Hw)(t:Nat):Ph->Bool
 | .take k=>decide (k<H.tb.length)&&(match Kb (H.cls k) ((H.kz t).li k)with
  | (some y,_)=>i63 y
  | (none,_)=>true)
 | .cN k _=>decide (k<H.tb.length)&&(Z6 (H.eM t) (k:Int) != 0 || !(YL (H.eM t) (k:Int)).isEmpty)
 | .cO _ _=>true
 | .grow _ _=>true
 | .fill=>match (H.kz t).bP with
  | (k,x::xs)::_=>decide (k<H.tb.length)&&(i63 x&&decide (((H.kz t).li k).os.length+xs.length<=256))
  | _=>false
 | .eV m=>decide (Z5 (H.eM t) H.sp (m:Int) 1<=1000000)
 | .find x=>i63 x&&((bV H.live x).isSome&&decide (0<=x))
 | .put k _=>decide (k<H.tb.length) && !(H.kz t).bP.isEmpty
 | .back=>match (H.kz t).bP with
  | (_,xs)::_=>(xs.all λx=>i63 x&&decide (0<=YJ H.bT x))&&decide (xs.length<=1000000)
  | _=>false
 | .dJ _ a=>decide (0<=a)&&(decide (a.toNat<H.bT.length)&&H.bT.all λA=>A.runs.all λr=>decide (r.1<=1000000))
 | .drain=>true
theorem yf {x:Int}(h:i63 x=true):iL x:=by
 unfold i63 at h;unfold iL;exact pE h
theorem Wlv {H:Hw}{t:Nat}{p:Ph}(h:qh H t p=true):uJ H t p:=by
 cases p with
 | take k=>
  simp only[qh,zF,zT]at h;refine⟨h.1,λy l u=>?_⟩;have g:=h.2;rw[u]at g;exact yf g
 | cN k w=>
  simp only[qh,zF,zT,ot]at h;refine⟨h.1,λi d=>?_⟩;rw[i,d]at h;simp at h
 | cO k w=>trivial
 | grow k w=>trivial
 | fill=>
  simp only[qh]at h;split at h
  ·rename_i k x xs r hh;simp only[zF,zT]at h;exact⟨k,x,xs,r,hh,h.1,yf h.2.1,h.2.2⟩
  ·cases h
 | eV m=>
  simp only[qh,zT]at h;exact h
 | find x=>
  simp only[qh,zF,zT]at h;exact⟨yf h.1,λj=>by rw[j]at h;simp at h,λb _=>h.2.2⟩
 | put k x=>
  simp only[qh,zF,zT]at h;exact⟨h.1,λd=>by rw[d]at h;simp at h⟩
 | back=>
  simp only[qh]at h;split at h
  ·rename_i k xs r hh;simp only[zF,zT,kN]at h;exact⟨k,xs,r,hh,λx e=>⟨yf (h.1 x e).1,(h.1 x e).2⟩,h.2⟩
  ·cases h
 | dJ s a=>
  simp only[qh,zF,zT,kN]at h;exact⟨h.1,h.2.1,h.2.2⟩
 | drain=>trivial
def pF:Nat->Hw->Nat->Ph->Option (Hw×Int×Int)
 | 0,_,_,_=>none
 | n+1,H,t,p=>if qh H t p&&decide ((H.kz t).bP.length<=900)then(match (Wt H t p).2.1 with
  | none=>some (QS H t p,(Wt H t p).2.2.1,(Wt H t p).2.2.2)
  | some p'=>pF n (QS H t p) t p')else none
theorem Ij:∀{n:Nat} {H:Hw} {t:Nat} {p:Ph} {r:Hw×Int×Int},pF n H t p=some r->∃m,iO m H t p r.1 r.2.1 r.2.2
 | 0,_,_,_,_,h=>by simp[pF]at h
 | n+1,H,t,p,r,h=>by
  rw[pF]at h;split at h
  ·rename_i hc;simp only[zF,zT]at hc;have hok:uK H t p:=⟨Wlv hc.1,λg a=>by rw[←GP a];exact hc.2⟩;split at h
   ·rename_i hn;cases h;exact⟨1,.done hok hn⟩
   ·rename_i p' hs;obtain⟨m,b⟩:=Ij h;exact⟨m+1,.next hok hs b⟩
  ·cases h
def yg (H:Hw)(thread kind size align addr:Int):Option (Hw×Int×Int):=match KJ H thread kind size align addr with
 | .inl e=>if e=0 then none else some (H,0,e)
 | .inr (t,p)=>pF 40 (eT H t (some p)) t p
theorem OU {H:Hw}{thread kind size align addr:Int}{r:Hw×Int×Int}(h:yg H thread kind size align addr=some r):U1 H thread kind size align addr r.1 r.2.1 r.2.2:=by
 unfold yg at h;split at h
 ·rename_i e he;split at h
  ·cases h
  ·rename_i hne;cases h;exact .inl ⟨he,hne,rfl,rfl⟩
 ·rename_i t p he;obtain⟨m,a⟩:=Ij h;exact .inr ⟨t,p,m,he,a⟩
def tN:List bW:=(qO 8).map ZW
def w0:Hw:=Uf tN ⟨64,1,1,1024,2⟩
def oV (H:Hw)(kind size addr:Int):Hw×Int×Int:=(yg H 0 kind size (if kind=0 then 8 else 0) addr).getD (H,0,99)
theorem NI {H:Hw}{kind size addr:Int}(h:(oV H kind size addr).2.2≠99):U1 H 0 kind size (if kind=0 then 8 else 0) addr (oV H kind size addr).1 (oV H kind size addr).2.1 (oV H kind size addr).2.2:=by
 unfold oV at *;cases hw:yg H 0 kind size (if kind=0 then 8 else 0) addr with
 | none=>rw[hw]at h;exact absurd rfl h
 | some r=>exact OU hw
theorem As {H:Hw}{kind size addr al a e:Int}{N:Hw×Int×Int}(hN:N=oV H kind size addr)(h:N.2=(a,e))(hne:e≠99)(hal:al=if kind=0 then 8 else 0):U1 H 0 kind size al addr N.1 a e:=by
 have b:=NI (H:=H) (kind:=kind) (size:=size) (addr:=addr) (by rw[←hN,h];exact hne);rw[←hN,h,←hal]at b;exact b
theorem xk:Uf ((qO 8).map ZW) ⟨(64:Int).toNat,(1:Int).toNat,(1:Int).toNat,(1024:Int).toNat,(2:Int).toNat⟩=w0:=rfl
end Go.Ar
namespace Go.Ar
open Go Go.Vc Go.Proofs
variable {σ u u':Hp}{F:Rg}{L:dS}{H H':Hw}{N:Nat}
attribute [local irreducible] w0 oV tN
theorem Pp (g:Gl σ)(gd:Gd σ){R:Option Addr->Hp->Prop}(hR:∀σ' L N,bO σ σ'->σ.size<=N->N<=σ'.size->HH σ' (λb=>N<=b) L w0->R (some ⟨L.p,0,none⟩) σ'):XI.c σ R:=by
 refine XI.o ?_;unfold XI.v;refine Wu.o ?_;unfold Wu.v;refine nw (cs:=[.int .i64 8,.int .i64 64,.int .i64 1,.int .i64 1,.int .i64 1024,.int .i64 2]) λv A e m=>m.rI rfl ?_;refine EP 8 aB aB λs z u w=>?_;have a:=u.bZ m id;have d:=e.trans u;refine a.gD rfl (a.gD rfl (a.gD rfl (a.gD rfl (a.gD rfl ?_))));refine DP w (g.bK d) (gd.bK d) 64 1 1 1024 2 (λj=>?_) (λ_ x=>?_) λ_ _ y L i r=>?_
 ·have:=HV 8 aB aB;rw[show((8:Nat):Int)=8 from rfl]at this;rw[this]at j;cases j
 ·exact absurd x aB
 ·rw[xk]at r;exact cG rfl (hR y L z.size (d.trans i) d.1 i.1 r)
end Go.Ar
namespace Go.Proofs
open Go.Vc
set_option maxRecDepth 100000
def Qg.h:Hn:=.q .o2 (.q (.q .o3 .aJ) (.q (.q (.cV (.seq [.op,.op,.op,.dA false 2 [.op,.op],.op,.dA false 2 [.op,.op],.op,.dA false 2 [.op,.op],.op,.dA false 5 (RI.ops 5)])) .aJ) (.q .o9 (.q (.q .o2 (.c (.q .o9 .l) .l)) (.q .fV (.q .fV (.q (.oq 16) .l)))))))
def Qg.v (a:Sl)(b c:Int)(d:Hp)(e:Int->Int->Hp->Prop):Prop:=ZG.c a d λf g=>If (!f) (e 0 2 g) (bY (λh i=>bY (λj k=>bY (λl m=>bY (λn o=>If n (e 0 1 o) (Z1.c a b c o λp q r=>If (q != 0) (bL (b+256) λs=>bL (s-1) λt=>Nz 256<|bL (t.tdiv 256) λu=>bL (u*256) λv=>bL (v-b) λw=>e w 0 r) (Ix a.a a.len p 3 λx=>aQ x 0 r λy=>aQ x 1 r λz=>aQ x 2 r λaa=>Ze.c y z aa r λab ac ad=>Ix a.a a.len p 3 λae=>aQ ae 0 ad λaf=>aQ ae 1 ad λag=>aQ ae 2 ad λah=>Qp.c af ag ah ad λai aj ak=>Ix a.a a.len p 3 λal=>aQ al 0 ak λam=>bL (am-b) λan=>bL (ai+ab) λao=>bL (ao-1) λap=>Nz ab<|bL (ap.tdiv ab) λaq=>bL (an+aq) λar=>e ar 0 ak))) λau=>If l (au true m) (bL (c-1) λav=>au ((bits .and .i64 c av) != 0) m)) λaw=>If j (aw true k) (aw (decide (c>256)) k)) λax=>If h (ax true i) (ax (decide (c<1)) i)) λay=>If (b<1) (ay true g) (ay (decide (b>16384)) g))
theorem Qg.o {a b c d e}(f:Qg.v a b c d e):Qg.c a b c d e:=Wa Tryz.func14 (x:=Qg.h) (R0 f)
def QI.h:Hn:=.q .o2 (.q (.q .o3 .aJ) (.q .o6 .l))
def QI.v (a:R2)(b:Hp)(c:Option Addr->Int->Hp->Prop):Prop:=QA.c a b λd e=>If (!d) (c none 1 e) (Nw (.map #[] 0) e λf g=>aV #[.pointer a,.map (some f.block),.I 0,.I 0,.I 0,.I 0,.I 0,.I 0] 38 g λh i=>c (some h) 0 i)
theorem QI.o {a b c}(d:QI.v a b c):QI.c a b c:=Wa Tryz.func19 (x:=QI.h) (R0 d)
def Xz.h:Hn:=.q .o2 (.q (.q .o3 .aJ) (.q (.o 13) (.jD [] (.q .o2 (.c (.q .o3 (.q .o7 .o9)) .l)) (.q .o6 (.q .o4 .l)))))
def Xz.v (a:R2)(b c d:Int)(e:Hp)(f:Int->Int->Hp->Prop):Prop:=Xt.c a e λg h=>If (!g) (f 0 5 h) (bS a λi=>aY i 0 h λj=>Yh.c j b c d h λk l m=>Jn [] (λn=>bS a λo=>XX.c a l (some (o.add 5)) n λp=>f k l p) λq=>If (l==0) (XC.c a k m λr=>bI a 1 r λt=>kR .i64 bN t k c r λu=>bD a 2 u λw=>bL (w+c) λx=>bS a λy=>aR y 2 (.I x) u λz=>q z) (q m))
theorem Xz.o {a b c d e f}(g:Xz.v a b c d e f):Xz.c a b c d e f:=Wa Tryz.func20 (x:=Xz.h) (R0 g)
def Y3.h:Hn:=.q .o1 (.q (.q .o3 .aK) (.q .o8 (.jD [] (.q .o2 (.c .o3 .l)) (.q .o6 .aL))))
def Y3.v (a:R2)(b c:Int)(d:Hp)(e:aN):Prop:=Xt.c a d λf g=>If (!f) (e 5 g) (bF a 0 g λi=>Zr.c i b c g λj k=>Jn [] (λl=>bS a λm=>XX.c a j (some (m.add 6)) l λn=>e j n) λo=>If (j==0) (XC.c a c k λp=>o p) (o k))
theorem Y3.o {a b c d e}(f:Y3.v a b c d e):Y3.c a b c d e:=Wa Tryz.func23 (x:=Y3.h) (R0 f)
def W6.h:Hn:=.q .o1 (.q (.q .o3 .aJ) (.q .o7 (.q (.cV (.held true [47] (.tk [0,1,2,3,4,5,6,7,10,11,12,13,14,15,16,17,18,19,20,21,22,23,24,25,26,27,28,29,30,31,32,33,34,35,36,37,38,39,40,41,42,43,44,45] (.all [(8,.all [(9,.take 46 (.all [(47,.done)]))])])))) .l)))
def W6.v (a:R2)(b:Hp)(c:Int->Int->Int->Int->Int->Int->Int->Int->Int->Int->Hp->Prop):Prop:=aV #[.I 0,.I 0,.I 0,.I 0,.I 0,.I 0,.I 0,.I 0,.I 0,.I 0] 56 b λd e=>Xt.c a e λf g=>If (!f) (aR d 0 (.I 0) g λh=>aR d 1 (.I 0) h λi=>aR d 2 (.I 0) i λj=>aR d 3 (.I 0) j λk=>aR d 4 (.I 0) k λl=>aR d 5 (.I 0) l λm=>aR d 6 (.I 0) m λn=>aR d 7 (.I 0) n λo=>aR d 8 (.I 0) o λp=>aR d 9 (.I 0) p λq=>aQ d 0 q λr=>aQ d 1 q λs=>aQ d 2 q λt=>aQ d 3 q λu=>aQ d 4 q λv=>aQ d 5 q λw=>aQ d 6 q λx=>aQ d 7 q λy=>aQ d 8 q λz=>aQ d 9 q λaa=>c r s t u v w x y z aa q) (bF a 0 g λac=>YT.c ac g λad ae af ag ah ai aj ak al am an ao=>aV #[.I 0,.I 0,.I 0,.I 0,.I 0,.I 0,.I 0,.I 0,.I 0,.I 0,.I 0] 89 ao λap aq=>aR ap 0 (.I ad) aq λar=>aR ap 1 (.I ae) ar λau=>aR ap 2 (.I af) au λav=>aR ap 3 (.I ag) av λaw=>aR ap 4 (.I ah) aw λax=>aR ap 5 (.I ai) ax λay=>aR ap 6 (.I aj) ay λaz=>aR ap 7 (.I ak) az λa0=>aR ap 8 (.I al) a0 λa1=>aR ap 9 (.I am) a1 λa2=>aR ap 10 (.I an) a2 λa3=>dU a3 λa4=>bS a λa5=>aS a4 a5 2 λa6=>bS a λa7=>aU a4 a7 0 λa8=>aS a4 ap 1 λa9=>aS a4 ap 2 λba=>bL (a9+ba) λbb=>
 aS a4 ap 3 λbc=>bL (bb+bc) λbd=>aS a4 ap 4 λbe=>bL (bd+be) λbf=>aS a4 ap 5 λbg=>aS a4 ap 8 λbh=>bL (bh*256) λbi=>bS a λbj=>aS a4 bj 3 λbk=>bS a λbl=>aS a4 bl 4 λbm=>bS a λbn=>aS a4 bn 5 λbo=>bS a λbp=>aS a4 bp 6 λbq=>bS a λbr=>aS a4 br 7 λbs=>Y7.c a8 a3 λbt bu=>And (a4 bu) <| Xc.c bt ⟨60,#[],#[]⟩ bu λbv bw=>And (a4 bw) <| aR d 0 (.I a6) bw λbx=>aR d 1 (.I bv) bx λbz=>aR d 2 (.I bf) bz λb0=>aR d 3 (.I bg) b0 λb1=>aR d 4 (.I bi) b1 λb2=>aR d 5 (.I bk) b2 λb3=>aR d 6 (.I bm) b3 λb4=>aR d 7 (.I bo) b4 λb5=>aR d 8 (.I bq) b5 λb6=>aR d 9 (.I bs) b6 λb7=>aQ d 0 b7 λb8=>aQ d 1 b7 λb9=>aQ d 2 b7 λca=>aQ d 3 b7 λcb=>aQ d 4 b7 λcc=>aQ d 5 b7 λcd=>aQ d 6 b7 λce=>aQ d 7 b7 λcf=>aQ d 8 b7 λcg=>aQ d 9 b7 λch=>c b8 b9 ca cb cc cd ce cf cg ch b7)
theorem W6.o {a b c}(d:W6.v a b c):W6.c a b c:=Wa Tryz.func24 (x:=W6.h) (R0 d)
def Xe.h:Hn:=.q .o1 (.q (.q .o3 .aK) (.q .o6 (.q .o2 (.q (.q .o7 (.k (.loop [(29,.I)] (.q .o1 (.q (.c .l .l) (.q (.k (.q .o4 (.q .o6 (.q .o4 (.q .o5 (.q .o7 (.q (.cV (.tail 11 (RI.ops 11) [.op])) .o5))))))) .o2)))))) (.q .o1 (.q (.q .o1 (.k (.loop [(8,.one .s),(9,.I)] (.q (.q .o4 (.c .l .l)) (.q (.k (.q .o9 (.q (.q .o2 (.c .l .l)) (.jD [] (.q .o2 (.c (.q .fV (.cV (.held true [13,15] (.tk [0,1,2,3,4,5,6,7,8,9,10,11,12] (.all [(13,.take 14 (.all [(15,.done)]))]))))) .l)) .o5)))) .o3))))) .aL))))))
def Xe.v (a:R2)(b:Hp)(c:Sl->Hp->Prop):Prop:=Xt.c a b λd e=>If (!d) (c ⟨none,0,0⟩ e) (bF a 0 e λg=>YX.c g e λh i=>Nw (.map #[] 0) i λj k=>bF a 0 k λm=>Y7.c m k λn o=>W7 [bN] (λp=>p 0 o) λq (r:Int) s=>If (r<((n.len:Nat):Int)) (Ix n.a n.len r 4 λt=>aQ t 0 s λu=>aQ t 1 s λv=>aQ t 2 s λw=>aQ t 3 s λx=>aV #[.I 0,.I 0,.I 0,.I 0] 76 s λy z=>aR y 0 (.I u) z λaa=>aR y 1 (.I v) aa λab=>aR y 2 (.I w) ab λac=>aR y 3 (.I x) ac λad=>aQ y 2 ad λae=>Lk .i64 (.ag 6) (some j.block) ae ad λaf=>aV #[.I 0,.I 0,.I 0,.I 0,.I 0,.I 0] 80 ad λag ah=>aR ag 0 (.I ((af.getD (0,0,0,0,0,0)).1)) ah λai=>aR ag 1 (.I ((af.getD (0,0,0,0,0,0)).2.1)) ai λaj=>aR ag 2 (.I ((af.getD (0,0,0,0,0,0)).2.2.1)) aj λak=>aR ag 3 (.I ((af.getD (0,0,0,0,0,0)).2.2.2.1)) ak λal=>aR ag 4 (.I ((af.getD (0,0,0,0,0,0)).2.2.2.2.1)) al λam=>aR ag 5 (.I ((af.getD (0,0,0,0,0,0)).2.2.2.2.2)) am λan=>aQ y 2 an λao=>aR ag 0 (.I ao) an λap=>aQ ag 2 ap λaq=>bL (aq+1) λar=>aR ag 2 (.I ar) ap λau=>aQ ag 3 au λav=>aQ y 1 au λaw=>bL (av+aw) λax=>aR ag 3 (.I ax) au λay=>aQ ag 4 ay λaz=>bI a 1 ay λa1=>aQ y 0 ay λa2=>Lk .i64 bN a1 a2 ay λa3=>bL (az+(a3.getD 0)) λa4=>
 aR ag 4 (.I a4) ay λa5=>aQ y 2 a5 λa6=>aQ ag 0 a5 λa7=>aQ ag 1 a5 λa8=>aQ ag 2 a5 λa9=>aQ ag 3 a5 λba=>aQ ag 4 a5 λbb=>aQ ag 5 a5 λbc=>kR .i64 (.ag 6) (some j.block) a6 (a7,a8,a9,ba,bb,bc) a5 λbd=>bL (r+1) λbe=>q be bd) (W7 [.s,bN] (λbf=>bf ⟨none,0,0⟩ (-1) s) λbg (bh:Sl) (bi:Int) bj=>If (bi<((h.len:Nat):Int)) (Lk .i64 (.ag 6) (some j.block) bi bj λbk=>aV #[.I 0,.I 0,.I 0,.I 0,.I 0,.I 0] 80 bj λbl bm=>aR bl 0 (.I ((bk.getD (0,0,0,0,0,0)).1)) bm λbn=>aR bl 1 (.I ((bk.getD (0,0,0,0,0,0)).2.1)) bn λbo=>aR bl 2 (.I ((bk.getD (0,0,0,0,0,0)).2.2.1)) bo λbp=>aR bl 3 (.I ((bk.getD (0,0,0,0,0,0)).2.2.2.1)) bp λbq=>aR bl 4 (.I ((bk.getD (0,0,0,0,0,0)).2.2.2.2.1)) bq λbr=>aR bl 5 (.I ((bk.getD (0,0,0,0,0,0)).2.2.2.2.2)) br λbs=>If (!bk.isSome) (bL (bi+1) λbt=>bg bh bt bs) (Jn [] (λbu=>aQ bl 0 bu λbv=>aQ bl 1 bu λbw=>aQ bl 2 bu λbx=>aQ bl 3 bu λbz=>aQ bl 4 bu λb0=>aQ bl 5 bu λb1=>aV #[.I bv,.I bw,.I bx,.I bz,.I b0,.I b1] 80 bu λb2 b3=>App bh 6 48 80 [.I 0,.I 0,.I 0,.I 0,.I 0,.I 0] ⟨some b2,1,1⟩ b3 λb4 b5=>bL (bi+1) λb6=>bg b4 b6 b5) λb7=>If (bi≥0) (Ix h.a h.len bi 3 λb8=>aQ b8 0 bs λb9=>aQ b8 1 bs λca=>aQ b8 2 bs λcb=>Ze.c b9 ca cb bs λcc cd ce=>dU ce λcf=>
 Ix h.a h.len bi 3 λcg=>aS cf cg 0 λch=>aS cf bl 2 λci=>bL (ci+cc) λcj=>bL (cj-1) λck=>Nz cc<|bL (ck.tdiv cc) λcl=>aR bl 1 (.I ch) ce λcm=>aR bl 5 (.I cl) cm λcn=>b7 cn) (b7 bs))) (c bh bj)))
theorem Xe.o {a b c}(d:Xe.v a b c):Xe.c a b c:=Wa Tryz.func25 (x:=Xe.h) (R0 d)
def QA.h:Hn:=.q .o1 (.q (.cV (.seq [.op,.op,.op,.dA true 4 (RI.ops 4),.op])) .l)
def QA.v (a:R2)(b:Hp)(c:aO):Prop:=bY (λd e=>c d e) λf=>If (!a.isNone) (Y9.c a b λg h i j k l=>f (decide (g>0)) l) (f false b)
theorem QA.o {a b c}(d:QA.v a b c):QA.c a b c:=Wa Tryz.func50 (x:=QA.h) (R0 d)
def Xt.h:Hn:=.q .o1 (.q (.cV (.seq [.op,.op,.op,.dA true 5 (RI.ops 5),.op])) .l)
def Xt.v (a:R2)(b:Hp)(c:aO):Prop:=bY (λd e=>c d e) λf=>If (!a.isNone) (bF a 0 b λh=>f (!h.isNone) b) (f false b)
theorem Xt.o {a b c}(d:Xt.v a b c):Xt.c a b c:=Wa Tryz.func51 (x:=Xt.h) (R0 d)
def XC.h:Hn:=.q (.cV (.tail 13 (RI.ops 13) [.op])) .o6
def XC.v (a:R2)(b:Int)(c:Hp)(d:aP):Prop:=bD a 2 c λf=>bI a 1 c λh=>Lk .i64 bN h b c λi=>bL (f-(i.getD 0)) λj=>bS a λk=>aR k 2 (.I j) c λl=>bI a 1 l λn=>mh .i64 bN n b l λo=>d o
theorem XC.o {a b c d}(e:XC.v a b c d):XC.c a b c d:=Wa Tryz.func53 (x:=XC.h) (R0 e)
def XX.h:Hn:=.jD [] (.q .o2 (.c .o6 .o8)) (.q (.cV (.tail 12 (RI.ops 12) [.op])) (.cV (.held true [15] (.tk [0,1,2,3,4,5,6,7,8] (.all [(9,.tk [10,11,12,13,14] (.all [(15,.done)]))])))))
def XX.v (a:R2)(b:Int)(c:R2)(d:Hp)(e:aP):Prop:=Jn [] (λf=>bD a 3 f λh=>bD a 2 f λj=>bS a λk=>aR k 3 (.I (if j>h then j else h)) f λl=>dU l λm=>bS a λn=>aS m n 4 λo=>bS a λp=>aU m p 0 λq=>YT.c q l λr s t u v w x y z aa ab ac=>And (m ac) <| bL (ab*256) λad=>bS a λae=>aR ae 4 (.I (if ad>o then ad else o)) ac λaf=>e af) λag=>If (b==0) (bS c λah=>bM ah d λai=>bL (ai+1) λaj=>bS c λak=>dG ak (.I aj) d λal=>ag al) (bD a 7 d λan=>bL (an+1) λao=>bS a λap=>aR ap 7 (.I ao) d λaq=>ag aq)
theorem XX.o {a b c d e}(f:XX.v a b c d e):XX.c a b c d e:=Wa Tryz.func54 (x:=XX.h) (R0 f)
def Xc.h:Hn:=.q .o1 (.q .o1 (.q (.q .o3 (.k (.loop [(5,.I),(10,.I)] (.q .o1 (.q (.c .l .l) (.q (.k (.q .o4 .o6)) .o2)))))) .aL))
def Xc.v (a:Sl)(b:Fv)(c:Hp)(d:aN):Prop:=W7 [bN,bN] (λe=>e 0 0 c) λf (g:Int) (h:Int) i=>If (h<((a.len:Nat):Int)) (Ix a.a a.len h 4 λj=>aQ j 0 i λk=>aQ j 1 i λl=>aQ j 2 i λm=>aQ j 3 i λn=>aV #[.I 0,.I 0,.I 0,.I 0] 76 i λo p=>aR o 0 (.I k) p λq=>aR o 1 (.I l) q λr=>aR o 2 (.I m) r λs=>aR o 3 (.I n) s λt=>aQ o 0 t λu=>aQ o 1 t λv=>aQ o 2 t λw=>aQ o 3 t λx=>VN Tryz.prog b [.agg #[.I u,.I v,.I w,.I x]] [.I] t λy z=>bL (g+y) λaa=>bL (h+1) λab=>f aa ab z) (d g i)
theorem Xc.o {a b c d}(e:Xc.v a b c d):Xc.c a b c d:=Wa Tryz.func59 (x:=Xc.h) (R0 e)
def XK.h:Hn:=.q .o2 (.q .o3 .l)
def XK.v (a b c d:Int)(e:Hp)(f:aN):Prop:=aV #[.I a,.I b,.I c,.I d] 76 e λg h=>aQ g 1 h λi=>f i h
theorem XK.o {a b c d e f}(g:XK.v a b c d e f):XK.c a b c d e f:=Wa Tryz.func60 (x:=XK.h) (R0 g)
end Go.Proofs
namespace Go.Ar
open Go Go.Vc Go.Proofs
open Go.Vc (bV dF cT)
open Go.Bu (iR)
variable {σ σ0 v w w':Hp}{F P Q X T:Rg}{L:dS}{H H':Hw}{held:List Pc}{s0:Sp}{t n:Nat}{g:Th}{mb am m:Nat}
structure Me where
 asked:List (Int×Int)
 sum:Int
 dO:Int
 dK:Int
 cS:Nat
 fT:Nat
 ir:Nat
def Me.calls (x:Me):Nat:=x.cS+x.fT+x.ir
structure lq (x:Me):Prop where
 v:∀y∈x.asked,0<=y.2/\y.2<=16384
 l:x.asked.length<=x.cS
 s:x.sum=(x.asked.map (·.2)).sum
 p:0<=x.dO/\x.dO<=16384000
 d:0<=x.dK/\x.dK<=1000000
 c:x.calls<=900
def oS:Me:=⟨[],0,0,0,0,0,0⟩
theorem Bw:lq oS:=⟨by simp[oS],by simp[oS],rfl,by simp[oS],by simp[oS],by simp[oS,Me.calls]⟩
def Me.forget (x:Me)(a:Int):Me:={x with asked:=cT x.asked a,sum:=x.sum-(bV x.asked a).getD 0}
def Me.add (x:Me)(a size:Int):Me:={x with asked:=dF x.asked a size,sum:=x.sum+size}
def Me.count (x:Me)(e:Int)(gK:Bool):Me:=if e=0 then(if gK then{x with cS:=x.cS+1}else{x with fT:=x.fT+1})else{x with ir:=x.ir+1}
def Me.eN (x:Me)(D:Int):Me:={x with dO:=if x.sum>x.dO then x.sum else x.dO,dK:=if D*256>x.dK then D*256 else x.dK}
theorem lq.iY {x:Me}(h:lq x):0<=x.sum/\x.sum<=14745600:=by
 have a:=VG (l:=x.asked) (f:=λy:Int×Int=>y.2) (c:=16384) h.v;have d:=h.l;have b:=h.c;unfold Me.calls at b;rw[h.s];exact⟨a.1,by have:=a.2;omega⟩
def vw (hp am:Nat)(x:Me):List Value:=[.pointer (some ⟨hp,0,none⟩),.map (some am),.int .i64 x.sum,.int .i64 x.dO,.int .i64 x.dK,.int .i64 (x.cS:Int),.int .i64 (x.fT:Int),.int .i64 (x.ir:Int)]
structure MP (σ0 σ:Hp) (L:dS) (H:Hw) (held:List Pc) (s0:Sp) (P:Rg) (mb am:Nat) (x:Me):Prop where
 e:bO σ0 σ
 h:HH σ P L H
 hi:HI H held s0
 cf:mw H
 ph:∀g∈H.bQ,g.ph=none
 pg:H.cf.aF<=128
 pP:∀b,P b->σ0.size<=b/\b<σ.size
 tI:σ0.size<=mb/\¬P mb
 uf:σ0.size<=am/\¬P am
 ne:mb≠am
 b:bX σ mb (vw L.p am x)
 m:dL σ am .i64 bN x.asked
 g0:iW (λb=>σ0.size<=b)/\¬σ0.size<=1
variable {x y:Me}
theorem MP.fr (p:MP σ0 σ L H held s0 P mb am x)(e:bO σ w):MP σ0 w L H held s0 P mb am x:=
 ⟨p.e.trans e,p.h.bK e,p.hi,p.cf,p.ph,p.pg,λb a=>⟨(p.pP b a).1,by have:=(p.pP b a).2;have:=e.1;omega⟩,p.tI,p.uf,p.ne,e.bZ p.b id,e.gL p.m id,p.g0⟩
theorem MP.out (p:MP σ0 σ L H held s0 P mb am x)(e:Ext T σ w)(hT:∀b,b<σ.size->T b->¬P b/\b≠mb/\b≠am/\σ0.size<=b):MP σ0 w L H held s0 P mb am x:=by
 have s:=e.1;have a:=p.b.lt;have r:=p.m.lt;have g:Ext (λb=>T b/\b<σ.size) σ w:=⟨e.1,λb a i=>e.2 b a λd=>i ⟨d,a⟩⟩;refine⟨Ext.fF p.e g λb a=>.inr (hT b a.2 a.1).2.2.2,p.h.bU g (λb a j d=>(hT b a d.1).1 j) (λb a=>?_) (λa=>?_),p.hi,p.cf,p.ph,p.pg,λb a=>⟨(p.pP b a).1,by have:=(p.pP b a).2;omega⟩,p.tI,p.uf,p.ne,e.bZ p.b λd=>(hT mb a d).2.1 rfl,e.gL p.m λd=>(hT am r d).2.2.1 rfl,p.g0⟩
 ·exact p.g0.1 b (hT b a.2 a.1).2.2.2
 ·exact p.g0.2 (hT _ a.2 a.1).2.2.2
theorem MP.step (p:MP σ0 σ L H held s0 P mb am x){ts':List eB}(e:Ext P σ w)(h':HH w (Grow P σ) {L with ts:=ts'} H'){held':List Pc}{s0':Sp}(hi':HI H' held' s0')(k:Z8 H' H)(ph':∀g∈H'.bQ,g.ph=none) :
 MP σ0 w {L with ts:=ts'} H' held' s0' (Cut (Grow P σ) w) mb am x:=by
 have u:=e.1;have a:=p.b.lt;have s:=p.m.lt;have i:∀b,b<σ.size->¬P b->¬Cut (Grow P σ) w b:=λb d r j=>by
  rcases j.1 with h3|h3
  ·exact r h3
  ·omega
 refine⟨Ext.fF p.e e λb a=>.inr (p.pP b a).1,h'.cut,hi',p.cf.bU k,ph',by rw[k.2.1];exact p.pg,λb a=>⟨?_,a.2⟩,⟨p.tI.1,i mb a p.tI.2⟩,⟨p.uf.1,i am s p.uf.2⟩,p.ne,e.bZ p.b p.tI.2,e.gL p.m p.uf.2,p.g0⟩;have:=p.e.1;rcases a.1 with d|d
 ·exact(p.pP b d).1
 ·omega
theorem MP.fO (p:MP σ0 σ L H held s0 P mb am x)(e:Ext (λb=>b=mb\/b=am) σ w)(hb:bX w mb (vw L.p am y))(hm:dL w am .i64 bN y.asked):MP σ0 w L H held s0 P mb am y:=by
 have j:=e.1;have a:∀b,(b=mb\/b=am)->σ0.size<=b/\¬P b:=λb hb=>by
  rcases hb with rfl|rfl
  ·exact p.tI
  ·exact p.uf
 exact⟨Ext.fF p.e e λb hb=>.inr (a b hb).1,p.h.bU e (λb _ g d=>(a b d).2 g) (λb hb=>p.g0.1 b (a b hb).1) (λhb=>p.g0.2 (a _ hb).1),p.hi,p.cf,p.ph,p.pg,λb hb=>⟨(p.pP b hb).1,by have:=(p.pP b hb).2;omega⟩,p.tI,p.uf,p.ne,hb,hm,p.g0⟩
theorem MP.st (p:MP σ0 σ L H held s0 P mb am x){i:Nat}{u:Value}(hi:i<8)(y:Me)(he:(vw L.p am x).set i u=vw L.p am y)(ha:y.asked=x.asked){K:aP}(hK:∀w,Ext (λb=>b=mb\/b=am) σ w->MP σ0 w L H held s0 P mb am y->K w):dG (Addr.add ⟨mb,0,none⟩ i) u σ K:=by
 refine p.b.s1 (by simp[vw];omega) λw o b=>?_;have e:Ext (λb=>b=mb\/b=am) σ w:=o.ext.sub λb d=>.inl d;rw[zG,he]at b;exact hK w e (p.fO e b (by rw[ha];exact o.ext.gL p.m λ(a:am=mb)=>p.ne a.symm))
theorem MP.bP (p:MP σ0 σ L H held s0 P mb am x):∀g∈H.bQ,g.bP=[]:=λg b=>by
 have a:=(p.hi.th g b).ph;unfold iB at a;rw[p.ph g b]at a;exact a
theorem G5 (p:MP σ0 σ L H held s0 P mb am x){R:aO}(hR:R true σ):Xt.c (aW mb) σ R:=by
 refine Xt.o ?_;unfold Xt.v;exact bY.intro (cJ rfl (aG (p.b.rP rfl hR)))
theorem E4 (p:MP σ0 σ L H held s0 P mb am x)(mi:lq x)(a:Int){R:aP}(hR:∀w,Ext (λb=>b=mb\/b=am) σ w->MP σ0 w L H held s0 P mb am (x.forget a)->R w):XC.c (aW mb) a σ R:=by
 refine XC.o ?_;unfold XC.v;have y:=mi.iY;have u:0<=(bV x.asked a).getD 0/\(bV x.asked a).getD 0<=16384:=by
  cases hm:bV x.asked a with
  | none=>exact⟨ql _,by decide⟩
  | some z=>exact mi.v _ (KA hm)
 refine aG (p.b.rI rfl (aG (p.b.rM rfl ⟨x.asked,p.m,ar O O (aG ?_)⟩)));refine p.st O {x with sum:=x.sum-(bV x.asked a).getD 0} rfl rfl λs g d=>aG (d.b.rM rfl ⟨x.asked,d.m,λw2 o2 _ i=>?_⟩);have o2:=o2 am rfl;have e:Ext (λb=>b=mb\/b=am) s w2:=o2.ext.sub λb r=>.inr r;exact hR w2 (g.trans e) (d.fO e (o2.ext.bZ d.b λ(j:mb=am)=>p.ne j) i)
set_option maxRecDepth 8000 in
theorem D7 (p:MP σ0 σ L H held s0 P mb am x)(hc:x.calls<=899)(e:Int)(gK:Bool){R:aP}(hR:∀w,Ext (λb=>b=mb\/b=am) σ w->MP σ0 w L H held s0 P mb am ((x.count e gK).eN (H.sp.st.count 2:Nat))->R w) :
 XX.c (aW mb) e (some (Addr.add ⟨mb,0,none⟩ (if gK then 5 else 6))) σ R:=by
 refine XX.o ?_;unfold XX.v;unfold Me.calls at hc;refine qy (λw=>Ext (λb=>b=mb\/b=am) σ w/\MP σ0 w L H held s0 P mb am (x.count e gK)) (λw ⟨j,d⟩=>?_) λJ z=>?_
 ·generalize hy:x.count e gK=y at d;have E:y.sum=x.sum/\y.dO=x.dO/\y.dK=x.dK:=by subst hy;unfold Me.count;split<;>(try split)<;>exact⟨rfl,rfl,rfl⟩
  refine aG (d.b.rI rfl (aG (d.b.rI rfl (aG (d.st O {y with dO:=if y.sum>y.dO then y.sum else y.dO} rfl rfl λG F r=>?_)))))
  refine⟨λm=>bO G m,Ext.refl _ _,aG (bX.rH (c:=bN) (y:=y.dK) r.b rfl (aG (bX.rH (c:=.p) (y:=some ⟨L.p,0,none⟩) r.b rfl (J5 r.h r.hi r.bP λS A _=>⟨A,?_⟩))))⟩;have C:=r.fr A;have K:H.sp.st.count 2<=128:=by
   have Q:=vq (a:=2) (l:=H.sp.st);have N:=p.hi.sl;have U:=p.pg;omega
  refine ar O O (aG (C.st O (y.eN (H.sp.st.count 2:Nat)) rfl rfl λD M B=>?_));exact hR D (((j.trans F).trans (bO.to A)).trans M) (by rw[hy];exact B)
 ·refine cI (λu=>?_) λu=>?_
  ·have g:e=0:=by simpa using u
   subst g;cases gK with
   | true=>exact aG (p.b.rI rfl (cA (m:=x.cS+1) aA O (aG (p.st (i:=5) O {x with cS:=x.cS+1} rfl rfl λs j d=>z s ⟨j,d⟩))))
   | false=>exact aG (p.b.rI rfl (cA (m:=x.fT+1) aA O (aG (p.st (i:=6) O {x with fT:=x.fT+1} rfl rfl λs j d=>z s ⟨j,d⟩))))
  ·have g:e≠0:=by simpa using u
   refine aG (p.b.rI rfl (cA (m:=x.ir+1) aA O (aG (p.st O {x with ir:=x.ir+1} rfl rfl λs j d=>z s ⟨j,?_⟩))));have:x.count e gK = {x with ir:=x.ir+1}:=by unfold Me.count;exact zA g
   rw[this];exact d
theorem iC.rest (o:iC H H')(h:∀g∈H.bQ,g.ph=none):∀g∈H'.bQ,g.ph=none:=λg d=>by
 obtain⟨j,b⟩:=zN d;have a:=o.ph j;unfold gU at a;rw[b]at a;simp only[yC]at a;rw[a];cases hk:H.bQ[j]? with
 | none=>rfl
 | some g'=>exact h g' (zE hk)
def Me.gK (x:Me)(a size e:Int)(D:Nat):Me:=((if e=0 then(x.forget a).add a size else x).count e true).eN (D:Int)
def Me.jb (x:Me)(a e:Int)(D:Nat):Me:=((if e=0 then x.forget a else x).count e false).eN (D:Int)
def Md (P:Rg)(mb am:Nat):Rg:=λb=>P b\/b=mb\/b=am
set_option maxRecDepth 8000 in
theorem ED (p:MP σ0 σ L H held s0 P mb am x)(mi:lq x)(hc:x.calls<=899)(thread size align:Int){R:Int->Int->Hp->Prop}
 (hR:∀a e w ts H' held' s0' P',Ext (Md P mb am) σ w->MP σ0 w {L with ts:=ts} H' held' s0' P' mb am (x.gK a size e (H'.sp.st.count 2))->(∀b,P' b->P b\/σ.size<=b)->Z8 H' H->sO H size align H' a e->U1 H thread 0 size align 0 H' a e->R a e w) :
 Xz.c (aW mb) thread size align σ R:=by
 refine Xz.o ?_;unfold Xz.v;refine G5 p (cG rfl (aG (p.b.rP rfl ?_)));obtain⟨H',a,r,Q,o,M⟩:=Rl p.hi thread size align;refine SL Cb p.h p.cf.2.2 Q λv1 i N K=>?_;obtain⟨held',s0',E⟩:=o.hi;have S:=p.step N K E o.kp (o.rest p.ph);have G:∀b,Cut (Grow P σ) v1 b->P b\/σ.size<=b:=λb g=>g.1;have s:Ext (Md P mb am) σ v1:=N.sub λb g=>.inl g;have C:∀{u u':Hp},Ext (λb=>b=mb\/b=am) u u'->Ext (Md P mb am) u u':=λe=>e.sub λb g=>.inr g;refine qy (λw=>Ext (Md P mb am) σ w/\MP σ0 w {L with ts:=i} H' held' s0' (Cut (Grow P σ) v1) mb am (if r=0 then(x.forget a).add a size else x)) (λw ⟨F,j⟩=>?_) λJ y=>?_
 ·refine aG (D7 j ?_ r true λw3 B A=>hR a r w3 i H' held' s0' _ (F.trans (C B)) A G o.kp M Q);split<;>exact hc
 ·refine cI (λD=>?_) λD=>?_
  ·have d:r=0:=by simpa using D
   have V:1<=size/\size<=16384:=by
    rcases M with⟨K,_⟩|⟨_,_,h2,_⟩
    ·exact absurd d K
    ·exact⟨h2.1,h2.2.1⟩
   rw[zB d]at y;have hs:=mi.iY;have hv:0<=(bV x.asked a).getD 0/\(bV x.asked a).getD 0<=16384:=by
    cases hm:bV x.asked a with
    | none=>exact⟨ql _,by decide⟩
    | some z=>exact mi.v _ (KA hm)
   refine E4 S mi a λX F j=>aG (j.b.rM rfl ⟨am,_,rfl,j.m,λw3 o3 U=>?_⟩);have B:Ext (λb=>b=mb\/b=am) X w3:=o3.ext.sub λb g=>.inr g;have A:MP σ0 w3 {L with ts:=i} H' held' s0' (Cut (Grow P σ) v1) mb am ⟨dF (cT x.asked a) a size,x.sum-(bV x.asked a).getD 0,x.dO,x.dK,x.cS,x.fT,x.ir⟩:=j.fO B (o3.ext.bZ j.b λ(Y:mb=am)=>p.ne Y) U;have W:(x.forget a).sum=x.sum-(bV x.asked a).getD 0:=rfl;refine aG (A.b.rI rfl (ar aC aC (aG (A.st O ((x.forget a).add a size) rfl rfl λw4 e4 Z=>y w4 ⟨((s.trans (C F)).trans (C B)).trans (C e4),Z⟩))))
  ·have d:r≠0:=by simpa using D
   rw[zA d]at y;exact y v1 ⟨s,S⟩
set_option maxRecDepth 8000 in
theorem TQ (p:MP σ0 σ L H held s0 P mb am x)(mi:lq x)(hc:x.calls<=899)(thread addr:Int)(hx:iL addr){R:aN}
 (hR:∀e w ts H' held' s0' P',Ext (Md P mb am) σ w->MP σ0 w {L with ts:=ts} H' held' s0' P' mb am (x.jb addr e (H'.sp.st.count 2))->(∀b,P' b->P b\/σ.size<=b)->Z8 H' H->sQ H thread addr H' e->R e w) :
 Y3.c (aW mb) thread addr σ R:=by
 refine Y3.o ?_;unfold Y3.v;refine G5 p (cG rfl (aG (p.b.rP rfl ?_)));obtain⟨H',g,Q,o,M⟩:=Oq p.hi thread addr hx;refine RU Cb p.h p.cf.2.2 Q λv1 d D F=>?_;obtain⟨held',s0',s⟩:=o.hi;have C:=p.step D F s o.kp (o.rest p.ph);have A:∀b,Cut (Grow P σ) v1 b->P b\/σ.size<=b:=λb j=>j.1;have i:Ext (Md P mb am) σ v1:=D.sub λb j=>.inl j;have B:∀{u u':Hp},Ext (λb=>b=mb\/b=am) u u'->Ext (Md P mb am) u u':=λe=>e.sub λb j=>.inr j;refine qy (λw=>Ext (Md P mb am) σ w/\MP σ0 w {L with ts:=d} H' held' s0' (Cut (Grow P σ) v1) mb am (if g=0 then x.forget addr else x)) (λw ⟨z,y⟩=>?_) λJ m=>?_
 ·refine aG (D7 y ?_ g false λK G E=>hR g K d H' held' s0' _ (z.trans (B G)) E A o.kp M);split<;>exact hc
 ·refine cI (λr=>?_) λr=>?_
  ·have a:g=0:=by simpa using r
   rw[zB a]at m;exact E4 C mi addr λN z y=>m N ⟨i.trans (B z),y⟩
  ·have a:g≠0:=by simpa using r
   rw[zA a]at m;exact m v1 ⟨i,C⟩
end Go.Ar
namespace Go.Ar
open Go Go.Vc Go.Proofs
open Go.Vc (bV dF cT)
open Go.Bu (iR)
variable {σ σ0 v w w':Hp}{F P Q X T:Rg}{L:dS}{H H':Hw}{held:List Pc}{s0:Sp}{t n:Nat}{g:Th}{mb am m:Nat}{x y:Me}
theorem PC {s:Sl}{bs:List Bk}(hs:cR s 4 (jg bs) σ F)(hl:bs.length<=1000000)(hb:∀b∈bs,0<=b.2.1/\b.2.1<=270000){R:aN}(hR:∀σ',bO σ σ'->R ((bs.map λb=>b.2.1).sum) σ') :
 Xc.c s ⟨60,#[],#[]⟩ σ R:=by
 refine Xc.o ?_;unfold Xc.v;have D:s.len=bs.length:=by have:=hs.1;rw[HC]at this;omega
 refine Ko (a:=bN) (bb:=bN) (λ(sum i:Int) w=>∃k:Nat,i=k/\k<=bs.length/\bO σ w/\sum=((bs.take k).map λb=>b.2.1).sum) (λ_ i _=>bs.length-i.toNat) ⟨0,rfl,O,Ext.refl _ _,by simp⟩ ?_;rintro(sum:Int) (i:Int) w ⟨k,rfl,hk,e,rfl⟩;refine cI (λM=>?_) λP=>?_
 ·have y:k<bs.length:=by omega
  have p:bs[k]?=some bs[k]:=cM _;generalize bs[k]=b at p;have E:=hb b (zE p);have g:=VG (l:=bs.take k) (f:=λb:Bk=>b.2.1) (c:=270000) λb h=>hb b (mK h);have u:(bs.take k).length=k:=by rw[zO];omega
  rw[u]at g;have d:((bs.take (k+1)).map λb:Bk=>b.2.1).sum=((bs.take k).map λb:Bk=>b.2.1).sum+b.2.1:=by rw[zg,p];simp
  refine Il (aH.bK (aH.cut hs) e) p λbb o r=>dP (r 0 _ rfl) (dP (r 1 _ rfl) (dP (r 2 _ rfl) (dP (r 3 _ rfl) ?_)));refine nw (cs:=[.int .i64 0,.int .i64 0,.int .i64 0,.int .i64 0]) λQ G J C=>C.s1 aA λv3 o3 N=>N.s1 aA λU o4 A=>A.s1 aA λS o5 B=>B.s1 aA λv6 o6 j=>?_;have H:bO w v6:=Ext.fresh (Ext.fresh (Ext.fresh (Ext.fresh J o3.ext λi x=>O) o4.ext λi x=>O) o5.ext λi x=>O) o6.ext λi x=>by omega
  refine j.rI rfl (j.rI rfl (j.rI rfl (j.rI rfl ?_)));refine GF (all := #[.agg #[.int .i64 b.1,.int .i64 b.2.1,.int .i64 b.2.2.1,.int .i64 b.2.2.2]]) (by kernel_rfl) aA ?_;refine XK.o ?_;unfold XK.v;refine nw (cs:=[.int .i64 b.1,.int .i64 b.2.1,.int .i64 b.2.2.1,.int .i64 b.2.2.2]) λV K L z=>z.rI rfl (ar O O (cA (m:=k+1) O O ⟨⟨k+1,rfl,O,(e.trans H).trans L,d.symm⟩,O⟩))
 ·have:k=bs.length:=by omega
  subst this;rw[zn];exact hR w e
def xA (l:List (Int×Bk)):Int:=(l.map λe=>e.2.2.1).sum
theorem IM (hi:HI H held s0){bs:List Bk}(hl:iU H.live bs):(bs.map λb=>(b.1,b)).Perm H.live:=by
 have i:(bs.map λb=>(b.1,b)).Nodup:=qD.2 (hl.pO.imp λ{a b} h e=>by have:=congrArg Prod.fst e;simp only at this;omega);have g:H.live.Nodup:=by
  have:=qD.1 hi.lk;exact this.imp λ{a b} h e=>h (by rw[e])
 rw[wL i g];intro e;rw[zC];constructor
 ·rintro⟨b,hb,rfl⟩;exact(hl.mem b).1 hb
 ·intro he;have d:=(hi.lv e he).1;exact⟨e.2,(hl.mem e.2).2 (by rw[d];exact he),by rw[d]⟩
theorem Lt {l l':List Int}(h:l.Perm l'):l.sum=l'.sum:=by
 induction h with
 | nil=>rfl
 | cons a _ ih=>simp only[zj];omega
 | swap a b l=>simp only[zj];omega
 | trans _ _ h1 h2=>omega
theorem LC (hi:HI H held s0){bs:List Bk}(hl:iU H.live bs):(bs.map λb=>b.2.1).sum=xA H.live:=by
 have a:=Lt ((IM hi hl).map λe=>e.2.2.1);rw[zm]at a;exact a
def xP (H:Hw):Nat:=V2 H+Ve Ub H+Ve qc H
def VL:List Value:=[.int .i64 0,.int .i64 0,.int .i64 0,.int .i64 0,.int .i64 0,.int .i64 0,.int .i64 0,.int .i64 0,.int .i64 0,.int .i64 0]
set_option maxRecDepth 16000 in
theorem HZ (p:MP σ0 σ L H held s0 P mb am x){R:Int->Int->Int->Int->Int->Int->Int->Int->Int->Int->Hp->Prop}
 (hR:∀w,bO σ w->wu H->R x.sum (xA H.live) (xP H:Nat) (Ve Ur H:Nat) (Ve VD H*256:Nat) x.dO x.dK (x.cS:Nat) (x.fT:Nat) (x.ir:Nat) w):W6.c (aW mb) σ R:=by
 refine W6.o ?_;unfold W6.v;refine nw (cs:=VL) λv hz e K=>G5 (p.fr e) (cG rfl (aG ((p.fr e).b.rP rfl (J5 (p.fr e).h p.hi p.bP λB G so=>?_))));refine nw (cs:=V9) λv13 X M Q=>uc Q _ _ _ _ _ _ _ _ _ _ _ λv24 F g=>?_;have A:bO B v24:=Ext.fresh M F λi (hi:i=B.size)=>by omega
 have ev:bO v v24:=G.trans A;have d:=(p.fr e).fr ev;obtain⟨W,E,J,U,D,V,N⟩:=so;refine⟨λm=>bO v24 m,Ext.refl _ _,aG (bX.rH (c:=bN) (y:=x.sum) d.b rfl (aG (bX.rH (c:=.p) (y:=some ⟨L.p,0,none⟩) d.b rfl (bX.rH (c:=bN) (y:=(V2 H:Nat)) g rfl (bX.rH (c:=bN) (y:=0) g rfl (cA (m:=V2 H) O O ?_))))))⟩;refine bX.rH (c:=bN) (y:=(Ve Ub H:Nat)) g rfl (cA (m:=V2 H+Ve Ub H) O O (bX.rH (c:=bN) (y:=(Ve qc H:Nat)) g rfl (cA (m:=xP H) (by unfold xP;omega) (by unfold xP;omega) ?_)));refine bX.rH (c:=bN) (y:=(Ve Ur H:Nat)) g rfl (bX.rH (c:=bN) (y:=(Ve VD H:Nat)) g rfl (cA (m:=Ve VD H*256) O O ?_));refine aG (bX.rH (c:=bN) (y:=x.dO) d.b rfl (aG (bX.rH (c:=bN) (y:=x.dK) d.b rfl (aG (bX.rH (c:=bN) (y:=(x.cS:Int)) d.b rfl (aG (bX.rH (c:=bN) (y:=(x.fT:Int)) d.b rfl (aG (bX.rH (c:=bN) (y:=(x.ir:Int)) d.b rfl ?_)))))))));refine Dg d.h p.hi λs v25 bs j S z=>⟨j,?_⟩;refine PC (bR.gp z) (by rw[S.len];exact p.hi.iH) (λb K=>?_) λC r=>⟨j.trans r,?_⟩
 ·have:=p.hi.jk ((S.mem b).1 K);simp only at this;omega
 rw[LC p.hi S];have u:bX C σ.size VL:=((ev.trans j).trans r).bZ K id;unfold VL at u;refine u.s1 aA λv1 o1 b1=>b1.s1 aA λv2 o2 b2=>b2.s1 aA λv3 o3 b3=>b3.s1 aA λv4 o4 b4=>b4.s1 aA λv5 o5 b5=>b5.s1 aA λv6 o6 b6=>b6.s1 aA λv7 o7 b7=>b7.s1 aA λv8 o8 b8=>b8.s1 aA λv9 o9 Z=>Z.s1 aA λv10 fV a=>?_;refine a.rI rfl (a.rI rfl (a.rI rfl (a.rI rfl (a.rI rfl (a.rI rfl (a.rI rfl (a.rI rfl (a.rI rfl (a.rI rfl (hR v10 ?_ ⟨W,E,J,U,D,V,N⟩))))))))));have Y:Ext (· = σ.size) C v10:=((((((((o1.ext.trans o2.ext).trans o3.ext).trans o4.ext).trans o5.ext).trans o6.ext).trans o7.ext).trans o8.ext).trans o9.ext).trans fV.ext;exact Ext.fresh (((e.trans ev).trans j).trans r) Y λi (hi:i=σ.size)=>by omega
theorem WkQ (h:HH σ F L H)(hp:1<=H.cf.aF){R:aO}(hR:∀σ',bO σ σ'->R true σ'):QA.c (aW L.p) σ R:=by
 refine QA.o ?_;unfold QA.v;refine bY.intro (cJ rfl (O9 h λw e=>?_));have:decide ((H.cf.aF:Int)>0)=true:=zW O;rw[this];exact hR w e
theorem J7 (e0:bO σ0 σ)(h:HH σ P L H)(hi:HI H held s0)(hc:mw H)(hph:∀g∈H.bQ,g.ph=none)(hpg:H.cf.aF<=128)(hP:∀b,P b->σ0.size<=b/\b<σ.size)(hg:iW (λb=>σ0.size<=b)/\¬σ0.size<=1){R:Option Addr->Int->Hp->Prop}
 (hR:∀w mb am,bO σ w->σ.size<=mb->σ.size<=am->MP σ0 w L H held s0 P mb am oS->R (some ⟨mb,0,none⟩) 0 w):QI.c (aW L.p) σ R:=by
 refine QI.o ?_;unfold QI.v;refine WkQ h hc.1 λv e=>cG rfl (tz λx y z r=>nw (cs:=vw L.p v.size oS) λs j i m=>?_);have u:=e.1;have A:=e0.1;have a:=(e.trans z).trans i;refine hR s x.size v.size a O u ⟨e0.trans a,h.bK a,hi,hc,hph,hpg,λb d=>⟨(hP b d).1,by have:=(hP b d).2;omega⟩,⟨O,λd=>by have:=(hP _ d).2;omega⟩,⟨O,λd=>by have:=(hP _ d).2;omega⟩,O,m,i.gL (r _ _) id,hg⟩
end Go.Ar