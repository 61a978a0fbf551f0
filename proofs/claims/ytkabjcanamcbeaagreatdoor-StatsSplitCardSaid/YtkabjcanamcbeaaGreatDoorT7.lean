/- Texts joined. -/
import Derived.Shelf.SlSortCmp.NoneTotal
import Derived.Ground.SlsfProg
import Derived.Test.YtkabjcanamcbeaaGreatDoorProg
import Derived.Shelf.SlIterI.Nil
import Derived.Ground.GgzProg
import Derived.Test.YtkabjcanamcbeaaGreatDoorT6
set_option linter.unusedVariables false
set_option linter.unusedSimpArgs false
namespace Go.Ar
open Go.Vc (bV dE cT)
open Go.Bu (Zi)
structure KS (s s':Sp):Prop where
 l:s'.st.length=s.st.length
 k:∀p,gf s.st p≠0->gf s'.st p≠0/\∀w,w/32=p->s'.wd w=s.wd w
theorem KS.refl (s:Sp):KS s s:=⟨rfl,λp a=>⟨a,λ_ _=>rfl⟩⟩
theorem KS.trans {a b c:Sp}(h:KS a b)(k:KS b c):KS a c:=⟨k.l.trans h.l,λp d=>⟨(k.k p (h.k p d).1).1,λw e=>((k.k p (h.k p d).1).2 w e).trans ((h.k p d).2 w e)⟩⟩
variable {s s' sp sp' s0 s0':Sp}{A B:AR}{k:Nat}
theorem gM.mz (h:gM s s'):s'.st.map (λx=>decide (x=0))=s.st.map λx=>decide (x=0):=by
 refine zp λi=>?_;rw[ze,ze];have a:=h.z i;unfold gf at a;rw[zN,zN]at a;by_cases hi:i<s.st.length
 ·have b:i<s'.st.length:=by rw[h.l];exact hi
  rw[cL hi,cL b]at a ⊢;simp only[px]at a;simp[a]
 ·have d:=h.l;rw[zX O,zX O]
theorem FP {l l':List Nat}(h:l'.map (λx=>decide (x=0))=l.map λx=>decide (x=0))(a m:Nat)(f:Bool->Bool):((l'.drop a).take m).any (λx=>f (decide (x=0)))=((l.drop a).take m).any λx=>f (decide (x=0)):=by
 have e:∀l:List Nat,((l.drop a).take m).any (λx=>f (decide (x=0)))=(((l.map λx=>decide (x=0)).drop a).take m).any f:=λl=>by
  rw[←List.map_drop,←List.map_take,List.any_map];rfl
 rw[e,e,h]
theorem gM.fI (h:gM s s')(a m:Int):fI s' a m=fI s a m:=by
 unfold Go.Ar.fI;rw[h.l];have:=FP h.mz a.toNat m.toNat (λb=>!b);have e:∀l:List Nat,l.any (λx=>x != 0)=l.any λx=>!decide (x=0):=λl=>by
  refine congrArg l.any (funext λx=>?_);cases x<;>rfl
 rw[e,e,this]
theorem gM.fF (h:gM s s')(a m:Int):fF s' a m=fF s a m:=by
 unfold Go.Ar.fF yA;rw[h.l];have:=FP h.mz a.toNat m.toNat (λb=>b);have e:∀l:List Nat,l.contains 0=l.any λx=>decide (x=0):=λl=>by
  rw[mX];simp only[tL,zq,zR,exists_eq_right]
 rw[e,e,this]
theorem gM.set (h:gM s s'){a m v:Nat}(hl:a+m<=s.st.length):gM (s.set a m v) (s'.set a m v):=by
 refine⟨by simp[Sp.set,Qr,h.l],λp=>?_,?_⟩
 ·show gf (fZ s'.st a (a+m) v) p=0↔gf (fZ s.st a (a+m) v) p=0;rw[HD (by rw[h.l];exact hl),HD hl];split
  ·exact Iff.rfl
  ·exact h.z p
 ·show(λw=>if a*32<=w/\w<(a+m)*32 then 0 else s'.wd w)=_
  rw[h.w];rfl
theorem IX {n:Nat}{a m:Int}(h:Zi n a m=true):a.toNat+m.toNat<=n:=by
 by_cases h0:0<=a/\0<=m
 ·obtain⟨a,rfl⟩:=zk h0.1;obtain⟨m,rfl⟩:=zk h0.2;rw[dC,dC];exact(Vs.1 h).2
 ·exfalso;unfold Zi at h;simp at h;omega
theorem gM.gF (h:gM s s')(a m:Int):gM (gF s a m) (gF s' a m):=by
 unfold Go.Ar.gF;rw[h.fI];split
 ·rename_i h0;refine h.set ?_;unfold Go.Ar.fI at h0;split at h0
  ·rename_i hr;exact IX hr
  ·simp at h0
 ·exact h
theorem gM.dX (h:gM s s')(a m:Int)(v:Nat):gM (dX s a m v) (dX s' a m v):=by
 unfold Go.Ar.dX;rw[h.fF];split
 ·rename_i h0;refine h.set ?_;unfold Go.Ar.fF at h0;split at h0
  ·rename_i hr;exact IX hr
  ·simp at h0
 ·exact h
theorem IH (s:Sp)(a m:Nat):KS s (gF s (a:Int) (m:Int)):=by
 by_cases h:fI s (a:Int) (m:Int)=0
 ·have i:=Db h;obtain⟨g,j,r,_⟩:=E4 h;refine⟨g,λp d=>?_⟩;have b:¬(a<=p/\p<a+m):=λe=>d (i.2.2 p e.1 e.2);exact⟨by rw[j,zA b];exact d,λw u=>r w O⟩
 ·unfold gF;rw[zA h];exact KS.refl s
theorem gM.cY (h:gM s s')(size:Nat):cY s' size=cY s size:=by
 unfold Go.Ar.cY;rw[h.l]
 congr 1
 funext x
 rw[h.fI]
theorem gM.cZ (h:gM s s')(A:AR)(m a no:Nat):(cZ A s' m a no).1=(cZ A s m a no).1/\(cZ A s' m a no).2.1=(cZ A s m a no).2.1/\gM (cZ A s m a no).2.2 (cZ A s' m a no).2.2/\KS s' (cZ A s' m a no).2.2:=by
 unfold Go.Ar.cZ;split
 ·exact⟨rfl,rfl,h,KS.refl _⟩
 ·unfold U0;rw[h.cY];cases hg:Go.Ar.cY s (Kc (max m a))with
  | none=>exact⟨rfl,rfl,h,KS.refl _⟩
  | some x=>
   simp only;split
   ·exact⟨rfl,rfl,h.gF _ _,IH _ _ _⟩
   ·exact⟨rfl,rfl,h.gF _ _,IH _ _ _⟩
theorem gM.cR (h:gM s s')(A:AR)(k:Int):(cR A s' k).1=(cR A s k).1/\KV A s' k=KV A s k/\gM (cR A s k).2 (cR A s' k).2/\KS s' (cR A s' k).2:=by
 unfold Go.Ar.cR KV;split
 ·split
  ·rename_i c ss _ _;obtain⟨a,d,e,b⟩:=h.cZ A c.aF 1 (k.toNat+1);cases e1:Go.Ar.cZ A s c.aF 1 (k.toNat+1)with
   | mk o1 r1=>cases e2:Go.Ar.cZ A s' c.aF 1 (k.toNat+1)with
    | mk o2 r2=>
     obtain⟨g,m⟩:=r1;obtain⟨j,i⟩:=r2;rw[e1,e2]at a d e;rw[e2]at b;simp only at a d e b;subst a;subst d;cases o2<;>exact⟨rfl,rfl,e,b⟩
  ·exact⟨rfl,rfl,h,KS.refl _⟩
 ·exact⟨rfl,rfl,h,KS.refl _⟩
theorem gM.cD (h:gM s s')(A:AR)(m a:Int):(cD A s' m a).1=(cD A s m a).1/\QH A s' m a=QH A s m a/\Qb A s' m a=Qb A s m a/\gM (cD A s m a).2 (cD A s' m a).2/\KS s' (cD A s' m a).2:=by
 unfold Go.Ar.cD QH Qb;split
 ·obtain⟨b,e,g,d⟩:=h.cZ A m.toNat a.toNat 41;cases e1:Go.Ar.cZ A s m.toNat a.toNat 41 with
  | mk o1 r1=>cases e2:Go.Ar.cZ A s' m.toNat a.toNat 41 with
   | mk o2 r2=>
    obtain⟨i,r⟩:=r1;obtain⟨p,j⟩:=r2;rw[e1,e2]at b e g;rw[e2]at d;simp only at b e g d;subst b;subst e;cases o2<;>exact⟨rfl,rfl,rfl,g,d⟩
 ·exact⟨rfl,rfl,rfl,h,KS.refl _⟩
theorem Jg (s:Sp)(a m:Int)(v:Nat):(dX s a m v).st.length=s.st.length:=by
 unfold Go.Ar.dX;split
 ·simp[Sp.set,Qr]
 ·rfl
theorem gM.wY:∀(rs:List (Nat×Nat)) {s s':Sp} (A:AR),gM s s'->(rs.foldl fD (A,s')).1=(rs.foldl fD (A,s)).1/\gM (rs.foldl fD (A,s)).2 (rs.foldl fD (A,s')).2/\(rs.foldl fD (A,s')).2.st.length=s'.st.length
 | [],s,s',A,h=>⟨rfl,h,rfl⟩
 | r::rs,s,s',A,h=>by
  rw[lC,lC];obtain⟨h1,h2,h3⟩:=gM.wY rs (fD (A,s) r).1 (h.dX r.1 r.2 1);exact⟨h1,h2,h3.trans (Jg _ _ _ _)⟩
theorem gM.dU (h:gM s s')(A:AR)(want:Int):(dU A s' want).1=(dU A s want).1/\gM (dU A s want).2 (dU A s' want).2/\(dU A s' want).2.st.length=s'.st.length:=by
 unfold Go.Ar.dU;split
 ·exact⟨rfl,h,rfl⟩
 ·exact gM.wY _ _ h
theorem gM.sO:∀(rs:List Nat) {s s':Sp} (A:AR),gM s s'->(rs.foldl Vx (A,s')).1=(rs.foldl Vx (A,s)).1/\gM (rs.foldl Vx (A,s)).2 (rs.foldl Vx (A,s')).2/\(rs.foldl Vx (A,s')).2.st.length=s'.st.length
 | [],s,s',A,h=>⟨rfl,h,rfl⟩
 | r::rs,s,s',A,h=>by
  rw[lC,lC];obtain⟨h1,h2,h3⟩:=gM.sO rs (Vx (A,s) r).1 (h.dX ((r*16:Nat):Int) 16 0);exact⟨h1,h2,h3.trans (Jg _ _ _ _)⟩
theorem gM.eL (h:gM s s')(A:AR):(eL A s').1=(eL A s).1/\gM (eL A s).2 (eL A s').2/\(eL A s').2.st.length=s'.st.length:=gM.sO _ _ h
variable {W:Wd}
theorem OS (h:WI W){cl:Int}{l:List Int}(ho:jN W.held k cl l=true)(c x:Int):Um (W.held.filter λp=>!eD k cl l p) c x↔Um W.held c x/\¬(c=cl/\x∈l):=by
 constructor
 ·rintro⟨p,hp,h1,h2,h3⟩;obtain⟨a,b⟩:=zH.1 hp;refine⟨⟨p,a,h1,h2,h3⟩,?_⟩;rintro⟨rfl,d⟩;obtain⟨q,i,e⟩:=(KM.1 ho).1 x d;obtain⟨g,s,u,r⟩:=KJ.1 e;obtain rfl:=h.same (p:=p) (q:=q) a i O;have:eD k c l p=true:=Z8.2 ⟨g,h2,by rw[h3];exact d⟩;rw[this]at b;cases b
 ·rintro⟨⟨p,hp,h1,h2,h3⟩,b⟩;refine⟨p,zH.2 ⟨hp,?_⟩,h1,h2,h3⟩;have:eD k cl l p=false:=mn.2 λd=>by
   obtain⟨_,m,j⟩:=Z8.1 d;exact b ⟨h2.symm.trans m,by rw[←h3];exact j⟩
  rw[this];rfl
theorem Wpd {held:List Pc}{cl:Int}{l:List Int}(ho:jN held k cl l=true):∀x∈l,Um held cl x:=λx i=>by
 obtain⟨q,b,a⟩:=(KM.1 ho).1 x i;obtain⟨j,e,g,d⟩:=KJ.1 a;exact⟨q,b,d,e,g⟩
theorem M0 (h:WI W){cl:Int}{l:List Int}(ho:jN W.held k cl l=true)(c x:Int):Um (GO W.held k cl l true) c x↔Um W.held c x/\¬(c=cl/\x∈l):=by
 constructor
 ·rintro⟨p,hp,h1,h2,h3⟩;obtain⟨q,b,rfl⟩:=QQ.1 hp;by_cases hof:eD k cl l q=true
  ·rw[zB hof]at h1;cases h1
  ·rw[zA hof]at h1 h2 h3;refine⟨⟨q,b,h1,h2,h3⟩,?_⟩;rintro⟨rfl,hx⟩;obtain⟨r,e,a⟩:=(KM.1 ho).1 x hx;obtain⟨d,s,m,j⟩:=KJ.1 a;obtain rfl:=h.same b e O;exact hof (Z8.2 ⟨d,h2,by rw[h3];exact hx⟩)
 ·rintro⟨⟨p,hp,h1,h2,h3⟩,hn⟩;refine⟨p,QQ.2 ⟨p,hp,?_⟩,h1,h2,h3⟩;rw[zA];intro hx;obtain⟨_,i,g⟩:=Z8.1 hx;exact hn ⟨h2.symm.trans i,by rw[←h3];exact g⟩
theorem OB {held:List Pc}{cl:Int}{l:List Int}:∀p∈GO held k cl l true,p.dZ=false->p∈held:=λp b a=>by
 obtain⟨q,d,rfl⟩:=QQ.1 b;by_cases hof:eD k cl l q=true
 ·rw[zB hof]at a;cases a
 ·rw[zA hof];exact d
theorem Si (h:WI W)(hk:W.bT[k]?=some A){j:Nat}:(∀x∈YP A (j:Int),∀c,¬Um W.held c x)/\(YP A (j:Int)).Nodup/\(∀c x,Um (GO W.held k j (YP A (j:Int)) false) c x↔Um W.held c x\/(c=j/\x∈YP A (j:Int))) ∧
 (∀p∈GO W.held k j (YP A (j:Int)) false,p.dZ=false->p∈W.held\/∀c,¬Um W.held c (p.addr:Int)):=by
 obtain⟨o,M,B,C,K,N⟩:=LA (h.ga k A hk) (j:Int);rw[dC]at B;have y:∀x∈YP A (j:Int),∃q∈W.held,q.k=k/\q.cls=j/\(q.addr:Int)=x/\q.dZ=true:=λx d=>by
  have u:=B x d;obtain⟨t,ht,g⟩:=u;have r:j<A.tb.length:=by rw[←(h.ga k A hk).lt];exact(cS.1 ht).1
  obtain⟨c,F,P,w,E⟩:=(h.ga k A hk).cl r;have s:fA A j x:=(K0 w).2 ((h.ga k A hk).l8 j c F t w ht x g);obtain⟨q,a,m,i,b⟩:=h.ht k A hk j x s;obtain⟨_,_,_,_,H⟩:=h.cls a i (by rw[m];exact hk);exact⟨q,a,m,i,b,H.2 (by rw[b];exact⟨t,ht,g⟩)⟩
 have new:∀x∈YP A (j:Int),∀c,¬Um W.held c x:=λx d c D=>by
  obtain⟨q,a,_,_,b,z⟩:=y x d;have:=(h.um a D b).1;rw[z]at this;cases this
 refine⟨new,C,λc x=>⟨?_,?_⟩,λp e L=>?_⟩
 ·rintro⟨p,e,h1,h2,h3⟩;obtain⟨q,a,rfl⟩:=QQ.1 e;by_cases hof:eD k (j:Int) (YP A (j:Int)) q=true
  ·rw[zB hof]at h2 h3;obtain⟨_,J,G⟩:=Z8.1 hof;exact .inr ⟨h2.symm.trans J,by rw[←h3];exact G⟩
  ·rw[zA hof]at h1 h2 h3;exact .inl ⟨q,a,h1,h2,h3⟩
 ·rintro(⟨p,e,h1,h2,h3⟩|⟨rfl,d⟩)
  ·refine⟨p,QQ.2 ⟨p,e,?_⟩,h1,h2,h3⟩;split
   ·rw[←h1]
   ·rfl
  ·obtain⟨q,a,m,i,b,z⟩:=y x d;refine⟨{q with dZ:=false},QQ.2 ⟨q,a,?_⟩,rfl,i,b⟩;rw[zB (Z8.2 ⟨m,i,by rw[b];exact d⟩)]
 ·obtain⟨q,a,rfl⟩:=QQ.1 e;by_cases hof:eD k (j:Int) (YP A (j:Int)) q=true
  ·rw[zB hof];exact .inr (new _ (Z8.1 hof).2.2)
  ·rw[zA hof];exact .inl a
theorem Eo {tb:List bX}{bT:List AR}{sp:Sp}{held new:List Pc}(h:WI ⟨tb,sp,bT,held++new⟩):∀p∈new,∀c,¬Um held c (p.addr:Int):=by
 rintro p d c ⟨q,b,_,_,g⟩;have e:=h.same (p:=p) (q:=q) (qg _ d) (mr _ b) O;have a:=h.hk;simp only[kQ]at a;rw[oO]at a;exact a.2.2 q.key (zD.2 ⟨q,b,rfl⟩) p.key (zD.2 ⟨p,d,rfl⟩) (by rw[e])
theorem Lw {held new:List Pc}{cl:Int}{l:List Int}(h1:∀p∈new,p.dZ=false/\p.cls=cl/\(p.addr:Int)∈l)(h2:∀x∈l,∃p∈new,(p.addr:Int)=x)(c x:Int):Um (held++new) c x↔Um held c x\/(c=cl/\x∈l):=by
 constructor
 ·rintro⟨p,b,a1,a2,a3⟩;rcases zP.1 b with b|b
  ·exact .inl ⟨p,b,a1,a2,a3⟩
  ·obtain⟨_,g,d⟩:=h1 p b;exact .inr ⟨a2.symm.trans g,by rw[←a3];exact d⟩
 ·rintro(⟨p,b,a⟩|⟨rfl,hx⟩)
  ·exact⟨p,mr _ b,a⟩
  ·obtain⟨p,b,e⟩:=h2 x hx;exact⟨p,qg _ b,(h1 p b).1,(h1 p b).2.1,e⟩
theorem Iv {tb:List bX}{bT:List AR}{sp:Sp}{held new:List Pc}(h:WI ⟨tb,sp,bT,held++new⟩):∀p∈held++new,p.dZ=false->p∈held\/∀c,¬Um held c (p.addr:Int):=λp a _=>by
 rcases zP.1 a with a|a
 ·exact .inl a
 ·exact .inr (Eo h p a)
theorem Wos {held:List Pc}(us:List AR)(c x:Int):Um (vn us held) c x↔Um held c x:=by
 unfold vn;constructor
 ·rintro⟨p,hp,h⟩;exact⟨p,(zH.1 hp).1,h⟩
 ·rintro⟨p,hp,h1,h⟩;exact⟨p,zH.2 ⟨hp,by rw[h1];rfl⟩,h1,h⟩
theorem Ve {ss:List cI}:∀{i:Nat},ZA ss i=none->∀k,k<i->∀s,ss[k]?=some s->¬s.many<s.tk.length
 | 0,_,k,hk,_,_=>by omega
 | i+1,h,k,hk,s,hs=>by
  unfold ZA at h;by_cases hki:k=i
  ·subst hki;rw[hs]at h;simp only at h;intro hlt;rw[zB hlt]at h;split at h
   ·split at h
    ·split at h<;>cases h
    ·cases h
   ·cases h
  ·cases hi:ss[i]? with
   | none=>
    rw[hi]at h;exact Ve h k O s hs
   | some x=>
    rw[hi]at h;simp only at h;split at h
    ·split at h
     ·split at h
      ·split at h<;>cases h
      ·cases h
     ·exact Ve (by assumption) k O s hs
    ·exact Ve h k O s hs
theorem TV (h:GA A)(hw:Ow A sp){j:Nat}(hE:KV A sp (j:Int)=0){w:Nat}(h1:1<=w):Yy (cR A sp (j:Int)).1 (j:Int) (w:Int)≠[]:=by
 rcases EV h hw (j:Int)with⟨_,hn⟩|⟨j',c,ss,x,A1,sp1,hj,hk,hk1,_,e,hst,r1,r2,r3,_,hd,hS⟩
 ·exact(hn hE).elim
 ·obtain rfl:j=j':=by omega
  have a:Cl (cR A sp (j:Int)).1 j c (iC c ss x):=by
   rw[e];have m:Cl (dT A1 x c.aF (j+1)) j c ss:=hk1;exact U5 m _
  have C:=hS.ga.cC j c _ a;have b:(⟨x,List.replicate c.n false⟩:cI)∈iC c ss x:=VK.2 (.inl rfl);have d:(cR A sp (j:Int)).1.ck (j:Int)=true:=Hu.2 ⟨j,rfl,a.lt⟩;unfold Yy QM VC;rw[d,zB rfl,zA (show ¬((w:Int)<0) by omega),zB rfl,dC,dC,a.1,a.2];simp only;obtain⟨w,rfl⟩:∃v,w=v+1:=⟨w-1,O⟩;cases ho:jm c (iC c ss x)with
  | some r=>
   obtain⟨y,D⟩:=r;rw[GB ho];simp
  | none=>
   exfalso;unfold jm nc at ho;obtain⟨l,z⟩:=zL b;have p:=(cS.1 z).1;have u:(⟨x,List.replicate c.n false⟩:cI).many<(⟨x,List.replicate c.n false⟩:cI).tk.length:=by
    have:=C.ok.nL;simp[cI.many,AJ];omega
   cases hb:ZA (iC c ss x) (iC c ss x).length with
   | none=>exact Ve hb l p _ z u
   | some i=>
    rw[hb]at ho;obtain⟨_,s,B,g⟩:=QZ hb;obtain⟨r,E,_⟩:=Ak g;simp only[B,E]at ho;cases ho
end Go.Ar
namespace Go.Ar
open Go.Vc (bV dE cT)
variable {H:Hw}{held:List Pc}{s0:Sp}{t k:Nat}{g:Th}{A:AR}{c:bX}
theorem Z9 {p:Ph}{H1:Hw}{g1:Th}{nx:Option Ph}{a e:Int}(ht:t<H.bS.length)(hs:Wt H t p=({H1 with bS:=H.bS.set t g1},nx,a,e)):QW H t p = {H1 with bS:=H.bS.set t {g1 with ph:=nx}}:=by
 unfold QW;rw[hs];show Hw.eA _ t _=_;rw[ZS (g:=g1) (by simp[ht])];simp only[oD]
structure iW (H:Hw) (t:Nat) (p:Ph):Prop where
 ok:wg H t p
 hi:∃held s0,HI (QW H t p) held s0
 ks:KS H.sp (QW H t p).sp
theorem iW.mk' {p:Ph}(hg:H.bS[t]?=some g)(hl:g.bP.length<=41)(h1:vF H t p){H':Hw}{held':List Pc}{s0':Sp}(e:QW H t p=H')(h2:HI H' held' s0')(h3:KS H.sp H'.sp):iW H t p:=
 ⟨⟨h1,λb a=>by rw[hg]at a;cases a;omega⟩,⟨held',s0',by rw[e];exact h2⟩,by rw[e];exact h3⟩
def Rq (tb:List bX)(g:Th):Ph->Int->Int->Prop
 | .take k,cl,sz=>cl=k/\∃c,tb[k]?=some c/\sz=c.size
 | .cO k _,cl,sz=>cl=k/\∃c,tb[k]?=some c/\sz=c.size
 | .cQ k _,cl,sz=>cl=k/\∃c,tb[k]?=some c/\sz=c.size
 | .grow k _,cl,sz=>cl=k/\∃c,tb[k]?=some c/\sz=c.size
 | .fill,cl,sz=>∃k xs r c,g.bP=(k,xs)::r/\cl=k/\tb[k]?=some c/\sz=c.size
 | .eT m,cl,sz=>cl = -1/\sz=((m*256:Nat):Int)
 | _,_,_=>False
def pM (H:Hw)(t:Nat):Ph->Nat
 | .take _=>5
 | .cO _ _=>4
 | .cQ k w=>if Yy (H.eN t) (k:Int) (w:Int)=[]then 3 else 1
 | .grow _ _=>2
 | _=>0
def td (H:Hw)(t:Nat)(p:Ph)(cl sz:Int):Prop:=
 (∃p' g',(Wt H t p).2.1=some p'/\(QW H t p).live=H.live/\(QW H t p).bS[t]?=some g'/\Rq H.tb g' p' cl sz/\pM (QW H t p) t p'<pM H t p) ∨
 ((Wt H t p).2.1=none/\(Wt H t p).2.2.2≠0/\(Wt H t p).2.2.1=0/\(QW H t p).live=H.live) ∨
 ((Wt H t p).2.1=none/\(Wt H t p).2.2.2=0/\bV H.live (Wt H t p).2.2.1=none/\(QW H t p).live=dE H.live (Wt H t p).2.2.1 ((Wt H t p).2.2.1,sz,cl,Ye (QW H t p).bT (Wt H t p).2.2.1))
theorem HI.mem (h:HI H held s0)(hg:H.bS[t]?=some g):g∈H.bS:=zE hg
theorem HI.kG (h:HI H held s0)(t:Nat):H.own t<H.bT.length:=vW _ (by have:=h.a1;omega)
theorem HI.eN (h:HI H held s0)(t:Nat):H.bT[H.own t]?=some (H.eN t):=by
 have a:=cL (h.kG t);rw[Cw a];exact a
theorem HI.ng (h:HI H held s0):H.tb.length<=40:=by
 have a:=h.eN 0;have:=(h.wi.ga _ _ a).tb;rw[h.wi.tb _ _ a]at this;exact this
theorem HI.cls (h:HI H held s0)(hk:k<H.tb.length):∃c,H.tb[k]?=some c/\c.ok:=⟨H.tb[k],cL hk,h.ok _ (zd hk)⟩
theorem tT.li {m:Nat}(h:tT m g)(hk:k<m):∃l,g.ls[k]?=some l/\g.li k=l/\fT l/\l.os.length<=128:=by
 have a:=cL (l:=g.ls) (i:=k) (by rw[h.ll];exact hk);have:=h.lo _ (zd (by rw[h.ll];exact hk));exact⟨_,a,Ab a,this.1,this.2⟩
theorem tT.iL {m:Nat}(h:tT m g){l':Li}(h1:fT l')(h2:l'.os.length<=128):(g.ls.set k l').length=m/\∀l∈g.ls.set k l',fT l/\l.os.length<=128:=by
 refine⟨by rw[nM];exact h.ll,λl a=>?_⟩;rcases wQ a with a|rfl
 ·exact h.lo l a
 ·exact⟨h1,h2⟩
theorem WoH {ls:List Li}{l':Li}{hs:List Bt}{ph:Option Ph}(hk:k<ls.length):(⟨ls.set k l',hs,ph⟩:Th).li k=l':=by
 unfold Th.li;rw[Fj l' k hk,zB rfl]
theorem HI.wO (h:HI H held s0){y:Int}(hu:Um held (k:Int) y)(hc:H.tb[k]?=some c):Lv held (y,(y,(c.size:Int),(k:Int),Ye H.bT y)):=by
 obtain⟨p,d,i,e,rfl⟩:=hu;obtain⟨A,g,_⟩:=h.wi.hf p d;obtain⟨c',b,j,_⟩:=h.wi.cls d e g;rw[h.wi.tb _ _ g]at b;have a:H.tb[k]?=some c':=b;rw[hc]at a;cases a;exact⟨rfl,p,d,i,e,rfl,by rw[j],by rw[h.pZ d]⟩
theorem AM {ls:List Li}{l:Li}(hl:ls[k]?=some l)(l':Li)(k' x:Int):mD (ls.set k l') k' x+(if(k:Int)=k' then l.os.count x else 0)=mD ls k' x+(if(k:Int)=k' then l'.os.count x else 0):=by
 have:=WnA l' (cS.1 hl).1 k' x;rw[zN,hl]at this;exact this
theorem N8 {ls:List Li}{l:Li}(hl:ls[k]?=some l)(x:Int):mD ls (k:Int) x=l.os.count x:=by
 rw[xD,zN,hl];rfl
theorem Woy (h:HI H held s0)(hg:H.bS[t]?=some g)(hph:g.ph=some (.take k)){cl sz:Int}(hr:Rq H.tb g (.take k) cl sz):iW H t (.take k)/\td H t (.take k) cl sz:=by
 have G:=(cS.1 hg).1;have b:=h.th g (h.mem hg);obtain⟨Q,A⟩:g.bP=[]/\k<H.tb.length:=by have:=b.ph;unfold iG at this;rw[hph]at this;exact this
 obtain⟨rfl,c,m,rfl⟩:=hr;have C:=h.ok c (zE m);obtain⟨l,hl,j,L,R⟩:=b.li A;have d:=IT C L;have i:=G6 hg;cases hT:Kj c l with
 | mk o l'=>
  rw[hT]at d;cases o with
  | some y=>
   have p:Wt H t (.take k)=({{H with live:=dE H.live y (y,(c.size:Int),(k:Int),Ye H.bT y)}with bS:=H.bS.set t {g with ls:=g.ls.set k l'}},none,y,0):=by
    simp only[Wt,i,Uo m,j,hT,VP,ZS hg,Th.iL]
   have e:=Z9 G p;have r:1<=gZ g (k:Int) y:=by
    have:=Fh hT y;rw[CU]at this;unfold gZ;rw[N8 hl];omega
   have P:=h.rj (h.mem hg) r;have K:=h.mV (h.mem hg) r;have u:l'.os.length<=128:=by
    have:l'.os.length<=l.os.length:=by
     unfold Kj at hT;split at hT
     ·cases hT
     ·cases hT;simp
    omega
   obtain⟨ll,J⟩:=b.iL (k:=k) d u;have M:=h.kX hg (g':={g with ls:=g.ls.set k l',ph:=none}) (live':=dE H.live y (y,(c.size:Int),(k:Int),Ye H.bT y)) (λD x=>by
    rw[Ew _ K];have E:=AM hl l' D x;have W:=Fh hT x;unfold gZ;rw[hph];simp only[kh];by_cases hkk:(k:Int)=D
    ·simp only[hkk,zV]at E ⊢;omega
    ·simp only[hkk,zz]at E ⊢;omega)
    (Go.Vc.ib h.lk) (λU B=>by
     rcases(BI K).1 B with B|rfl
     ·exact .inl B
     ·exact .inr (h.wO P m))
    (λs a F=>by cases F) ⟨ll,J,b.hb,b.hl,by unfold iG;exact Q⟩
   refine⟨iW.mk' hg b.hl ⟨A,λV N z=>?_⟩ e M (KS.refl _),.inr (.inr ?_)⟩
   ·rw[i,j,Uo m,hT]at z;cases z;exact(h.i63 P).1
   ·rw[e,p];exact⟨rfl,rfl,K,rfl⟩
  | none=>
   have p:Wt H t (.take k)=({H with bS:=H.bS.set t {g with ls:=g.ls.set k l'}},some (.cO k (p8 c l')),0,0):=by
    simp only[Wt,i,Uo m,j,hT,ZS hg,Th.iL]
   have e:=Z9 G p;obtain⟨o1,o2⟩:=WjN hT;obtain⟨ll,J⟩:=b.iL (k:=k) d (by rw[o2];simp);have w:=d.oK;have S:1<=p8 c l'/\p8 c l'<=32:=by
    unfold bX.ok at C;unfold p8;simp only at w;omega
   have M:=h.kX hg (g':={g with ls:=g.ls.set k l',ph:=some (.cO k (p8 c l'))}) (live':=H.live) (λD x=>by
    have E:=AM hl l' D x;rw[o1,o2]at E;unfold gZ;rw[hph];simp only[kh];omega) h.lk (λU B=>.inl B) (λs a F=>by cases F) ⟨ll,J,b.hb,b.hl,by
     unfold iG;exact⟨Q,A,by rw[WoH (by rw[b.ll];exact A)];exact o2,S⟩⟩
   refine⟨iW.mk' hg b.hl ⟨A,λV N z=>?_⟩ e M (KS.refl _),.inl ?_⟩
   ·rw[i,j,Uo m,hT]at z;cases z
   ·rw[e,p];exact⟨_,_,rfl,rfl,zM G,⟨rfl,c,m,rfl⟩,by simp[pM]⟩
theorem G0 (h:GA A)(h0:Qd A (k:Int)=0)(hc:A.tb[k]?=some c):∃x xs,YP A (k:Int)=x::xs/\xs.length+1=c.batch:=by
 have a:YP A (k:Int)=(match A.cE[k]? with
  | some t=>t.bs.getLast?.getD []
  | none=>[]):=by unfold YP;rw[zB h0,dC];rfl
 unfold Qd at h0;rw[dC]at h0;split at h0
 ·split at h0
  ·rename_i t ht;split at h0
   ·cases h0
   ·rename_i hb;rw[ht]at a;simp only at a;have m:t.bs.getLast?=some (t.bs.getLast hb):=List.getLast?_eq_some_getLast hb;rw[m]at a;simp only[px]at a;have:=h.oM k c t hc ht _ (List.getLast_mem hb);rw[←a]at this;have i:=h.cC;cases hx:YP A (k:Int)with
    | nil=>
     rw[hx]at this;have d:k<A.tb.length:=(cS.1 hc).1;obtain⟨g,j,_,b,_⟩:=h.cl d;have e:g=c:=Option.some.inj (b.1.symm.trans hc);have:=(h.cC k g j b).ok;unfold bX.ok at this;simp at *;subst e;omega
    | cons x xs=>exact⟨x,xs,rfl,by rw[hx]at this;simpa using this⟩
  ·cases h0
 ·cases h0
theorem Oe (h:HI H held s0)(hg:H.bS[t]?=some g){w:Nat}(hph:g.ph=some (.cO k w)){cl sz:Int}(hr:Rq H.tb g (.cO k w) cl sz):iW H t (.cO k w)/\td H t (.cO k w) cl sz:=by
 have B:=(cS.1 hg).1;have d:=h.th g (h.mem hg);obtain⟨F,D,r,Q⟩:g.bP=[]/\k<H.tb.length/\(g.li k).os=[]/\1<=w/\w<=32:=by have:=d.ph;unfold iG at this;rw[hph]at this;exact this
 obtain⟨rfl,c,i,rfl⟩:=hr;have K:=h.ok c (zE i);have z:=K;unfold bX.ok at z;have A:=h.eN t;have ga:=h.wi.ga _ _ A;have u:(H.eN t).tb[k]?=some c:=by rw[h.wi.tb _ _ A];exact i
 have L:vF H t (.cO k w):=⟨D,λC=>by
  obtain⟨x,p,e,_⟩:=G0 ga C u;rw[e];simp⟩
 by_cases hcase:w=c.batch/\Qd (H.eN t) (k:Int)=0
 ·obtain⟨rfl,C⟩:=hcase;obtain⟨x,p,M,W⟩:=G0 ga C u;have m:Wt H t (.cO k c.batch)=({H.cB (H.own t) (ZW (H.eN t) (k:Int))with bS:=H.bS.set t {g with bP:=[(k,x::p)]}},some .fill,0,0):=by
   simp only[Wt,Uo i,zV,C,Q0,M];rw[ZS (g:=g) (by exact hg),F];rfl
  have e:=Z9 (H1:=H.cB (H.own t) (ZW (H.eN t) (k:Int))) B m;obtain⟨N,P,X,S⟩:=Si h.wi A (j:=k);have wi:=h.wi.wF A (k:Int);have G:=h.fQ hg (g':={g with bP:=[(k,x::p)],ph:=some .fill}) (live':=H.live) wi h.k7 rfl (by simp[Wd.put]) S (λR y=>by
   rw[BF P (λy U=>N y U _) X,M];unfold gZ;rw[hph,F];simp only[kh,KN,VO];omega) h.lk (λV J=>.inl J) (λs a E=>by cases E) ⟨d.ll,d.lo,λb hb=>by
    simp only[zS]at hb;subst hb;exact⟨D,by simp,by simp;omega⟩,by simp,by
    unfold iG;exact⟨k,x,p,rfl,D,r,O⟩⟩
  refine⟨iW.mk' hg d.hl L e G (KS.refl _),.inl ?_⟩;rw[e,m];exact⟨_,_,rfl,rfl,zM B,⟨k,x::p,[],c,rfl,rfl,i,rfl⟩,by simp[pM]⟩
 ·have m:Wt H t (.cO k w)=({H with bS:=H.bS.set t g},some (.cQ k w),0,0):=by
   have:H.bS.set t g=H.bS:=Qt hg;rw[this];simp only[Wt,Uo i];split
   ·split
    ·exact(hcase ⟨by assumption,by assumption⟩).elim
    ·rfl
   ·rfl
  have e:=Z9 B m;have G:=h.kX hg (g':={g with ph:=some (.cQ k w)}) (live':=H.live) (λR x=>by
   unfold gZ;rw[hph];simp only[kh]) h.lk (λV J=>.inl J) (λs a E=>by cases E) ⟨d.ll,d.lo,d.hb,d.hl,by
    unfold iG;exact⟨F,D,r,Q⟩⟩
  refine⟨iW.mk' hg d.hl L e G (KS.refl _),.inl ?_⟩;rw[e,m];refine⟨_,_,rfl,rfl,zM B,⟨rfl,c,i,rfl⟩,?_⟩;simp only[pM];split<;>omega
theorem Nq (h:GA A)(j w:Nat):(Yy A (j:Int) (w:Int)).length<=w:=by
 unfold Yy;split
 ·rename_i h0;have a:A.ck (j:Int)=true:=by
   unfold QM at h0;split at h0
   ·assumption
   ·cases h0
  obtain⟨i,g,d⟩:=Hu.1 a;obtain⟨c,e,t,b,m⟩:=h.cl d;have:i=j:=by omega
  subst this;unfold VC;rw[dC,dC,b.1,b.2];exact(GC w (h.cC i c e b)).2.2.1
 ·simp
theorem ω (H:Hw)(t:Nat)(B:AR)(h:H.own t<H.bT.length)(sp:Sp)(bS:List Th):Hw.eN {H.cB (H.own t) B with sp:=sp,bS:=bS} t=B:=by
 refine Cw ?_;have:Hw.own {H.cB (H.own t) B with sp:=sp,bS:=bS} t=H.own t:=by unfold Hw.own Hw.cB;simp
 rw[this];simp[Hw.cB,h]
theorem S7 (h:HI H held s0)(hg:H.bS[t]?=some g){w:Nat}(hph:g.ph=some (.cQ k w)){cl sz:Int}(hr:Rq H.tb g (.cQ k w) cl sz):iW H t (.cQ k w)/\td H t (.cQ k w) cl sz:=by
 have C:=(cS.1 hg).1;have d:=h.th g (h.mem hg);obtain⟨F,E,r,M⟩:g.bP=[]/\k<H.tb.length/\(g.li k).os=[]/\1<=w/\w<=32:=by have:=d.ph;unfold iG at this;rw[hph]at this;exact this
 obtain⟨rfl,c,L,rfl⟩:=hr;have K:=h.eN t;have ga:=h.wi.ga _ _ K;have wi:=h.wi.from K (k:Int) (w:Int);have j:=Nq ga k w;have B:=(Jp ga (k:Int) (w:Int)).2.2.1;cases hv:Yy (H.eN t) (k:Int) (w:Int)with
 | nil=>
  have m:Wt H t (.cQ k w)=({H.cB (H.own t) (YS (H.eN t) (k:Int) (w:Int))with bS:=H.bS.set t g},some (.grow k w),0,0):=by
   have:H.bS.set t g=H.bS:=Qt hg;rw[this];simp only[Wt,hv,zV,Hw.cB]
  have e:=Z9 (H1:=H.cB (H.own t) (YS (H.eN t) (k:Int) (w:Int))) C m;rw[hv]at wi;simp only[qz,km]at wi;have G:=h.fQ hg (g':={g with ph:=some (.grow k w)}) (live':=H.live) wi h.k7 rfl (by simp[Wd.put]) (λp i _=>.inl i) (λN y=>by
   unfold gZ;rw[hph];simp only[kh]) h.lk (λP J=>.inl J) (λs a i=>by cases i) ⟨d.ll,d.lo,d.hb,d.hl,by
    unfold iG;exact⟨F,E,r,M⟩⟩
  refine⟨iW.mk' hg d.hl trivial e G (KS.refl _),.inl ?_⟩;rw[e,m];exact⟨_,_,rfl,rfl,zM C,⟨rfl,c,L,rfl⟩,by simp[pM,hv]⟩
 | cons v vs=>
  have m:Wt H t (.cQ k w)=({H.cB (H.own t) (YS (H.eN t) (k:Int) (w:Int))with bS:=H.bS.set t {g with bP:=[(k,(v::vs).map λ(x:Nat)=>(x:Int))]}},some .fill,0,0):=by
   simp only[Wt,hv,Q0];rw[zA aA,ZS (g:=g) (by exact hg),F];rfl
  have e:=Z9 (H1:=H.cB (H.own t) (YS (H.eN t) (k:Int) (w:Int))) C m;rw[hv]at wi j B;have A:((v::vs).map λ(x:Nat)=>(x:Int)).Nodup:=List.Pairwise.map (R:=(· ≠ ·)) _ (λa b D e=>D O) B;have app:=Lw (held:=held) (new:=(v::vs).map λy=>(⟨H.own t,(k:Int),y,pK H.tb (k:Int),false⟩:Pc)) (cl:=(k:Int)) (l:=(v::vs).map λ(x:Nat)=>(x:Int)) (λp i=>by
   obtain⟨y,u,rfl⟩:=zD.1 i;exact⟨rfl,rfl,zD.2 ⟨y,u,rfl⟩⟩) λx Q=>by
   obtain⟨y,u,rfl⟩:=zD.1 Q;exact⟨_,zD.2 ⟨y,u,rfl⟩,rfl⟩
  have new:=Eo wi;have G:=h.fQ hg (g':={g with bP:=[(k,(v::vs).map λ(x:Nat)=>(x:Int))],ph:=some .fill}) (live':=H.live) wi h.k7 rfl (by simp[Wd.put]) (Iv wi) (λN y=>by
   rw[BF A (λy u=>by
    obtain⟨z,S,rfl⟩:=zD.1 u;exact new ⟨H.own t,(k:Int),z,pK H.tb (k:Int),false⟩ (zD.2 ⟨z,S,rfl⟩) _) app]
   unfold gZ;rw[hph,F];simp only[kh,KN,VO];omega) h.lk (λP J=>.inl J) (λs a i=>by cases i) ⟨d.ll,d.lo,λb hb=>by
    simp only[zS]at hb;subst hb;exact⟨E,by simp,by simp at j ⊢;omega⟩,by simp,by
    unfold iG;exact⟨k,(v:Int),vs.map λ(x:Nat)=>(x:Int),rfl,E,r,by simp at j ⊢;omega⟩⟩
  refine⟨iW.mk' hg d.hl trivial e G (KS.refl _),.inl ?_⟩;rw[e,m];refine⟨_,_,rfl,rfl,zM C,⟨k,_,[],c,rfl,rfl,L,rfl⟩,?_⟩;simp[pM,hv]
theorem ε (h:HI H held s0)(hg:H.bS[t]?=some g){w:Nat}(hph:g.ph=some (.grow k w)){cl sz:Int}(hr:Rq H.tb g (.grow k w) cl sz):iW H t (.grow k w)/\td H t (.grow k w) cl sz:=by
 have A:=(cS.1 hg).1;have b:=h.th g (h.mem hg);obtain⟨D,M,C,F⟩:g.bP=[]/\k<H.tb.length/\(g.li k).os=[]/\1<=w/\w<=32:=by have:=b.ph;unfold iG at this;rw[hph]at this;exact this
 obtain⟨rfl,c,J,rfl⟩:=hr;have u:=h.eN t;have ga:=h.wi.ga _ _ u;obtain⟨z,K,E,r⟩:=h.k7.cR (H.eN t) (k:Int);have wi:=h.wi.grow u (k:Int);by_cases h0:KV (H.eN t) H.sp (k:Int)=0
 ·have m:Wt H t (.grow k w)=({{H.cB (H.own t) (cR (H.eN t) H.sp (k:Int)).1 with sp:=(cR (H.eN t) H.sp (k:Int)).2}with bS:=H.bS.set t g},some (.cQ k w),0,0):=by
   have:H.bS.set t g=H.bS:=Qt hg;rw[this];simp only[Wt,h0,zV,Hw.cB]
  have e:=Z9 (H1:={H.cB (H.own t) (cR (H.eN t) H.sp (k:Int)).1 with sp:=(cR (H.eN t) H.sp (k:Int)).2}) A m;have d:=TV ga (h.wi.ow _ _ u) (j:=k) (by rw[←K];exact h0) F.1;rw[show(Wd.mk H.tb s0 H.bT held).sp=s0 from rfl,←z]at d;rw[show(Wd.mk H.tb s0 H.bT held).sp=s0 from rfl,←z]at wi;have x:=h.fQ hg (g':={g with ph:=some (.cQ k w)}) (live':=H.live) wi E r.l (by simp[Wd.put]) (λp i _=>.inl i) (λL y=>by
   unfold gZ;rw[hph];simp only[kh]) h.lk (λG B=>.inl B) (λs a i=>by cases i) ⟨b.ll,b.lo,b.hb,b.hl,by
    unfold iG;exact⟨D,M,C,F⟩⟩
  refine⟨iW.mk' hg b.hl trivial e x r,.inl ?_⟩;rw[e,m];refine⟨_,_,rfl,rfl,zM A,⟨rfl,c,J,rfl⟩,?_⟩;have:=ω H t (cR (H.eN t) H.sp (k:Int)).1 (h.kG t) (cR (H.eN t) H.sp (k:Int)).2 (H.bS.set t {g with ph:=some (.cQ k w)});simp only[pM];rw[this,zA d];omega
 ·have m:Wt H t (.grow k w)=({{H.cB (H.own t) (cR (H.eN t) H.sp (k:Int)).1 with sp:=(cR (H.eN t) H.sp (k:Int)).2}with bS:=H.bS.set t g},none,0,KV (H.eN t) H.sp (k:Int)):=by
   have:H.bS.set t g=H.bS:=Qt hg;rw[this];simp only[Wt,h0,zz,Hw.cB]
  have e:=Z9 (H1:={H.cB (H.own t) (cR (H.eN t) H.sp (k:Int)).1 with sp:=(cR (H.eN t) H.sp (k:Int)).2}) A m;rw[show(Wd.mk H.tb s0 H.bT held).sp=s0 from rfl,←z]at wi;have x:=h.fQ hg (g':={g with ph:=none}) (live':=H.live) wi E r.l (by simp[Wd.put]) (λp i _=>.inl i) (λL y=>by
   unfold gZ;rw[hph];simp only[kh]) h.lk (λG B=>.inl B) (λs a i=>by cases i) ⟨b.ll,b.lo,b.hb,b.hl,by
    unfold iG;exact D⟩
  refine⟨iW.mk' hg b.hl trivial e x r,.inr (.inl ?_)⟩;rw[e,m];exact⟨rfl,h0,rfl,rfl⟩
theorem Oo (h:HI H held s0)(hg:H.bS[t]?=some g)(hph:g.ph=some .fill){cl sz:Int}(hr:Rq H.tb g .fill cl sz):iW H t .fill/\td H t .fill cl sz:=by
 have N:=(cS.1 hg).1;have d:=h.th g (h.mem hg);obtain⟨k,x,xs,A,K,i,R⟩:∃k x xs,g.bP=[(k,x::xs)]/\k<H.tb.length/\(g.li k).os=[]/\xs.length<=128:=by have:=d.ph;unfold iG at this;rw[hph]at this;exact this
 obtain⟨k',V,r,c,z,rfl,F,rfl⟩:=hr;rw[A]at z;obtain⟨j, -⟩:=List.cons.inj z;obtain rfl:k=k':=congrArg Prod.fst j;obtain⟨l,hl,u,D,L⟩:=d.li K;have p:=G6 hg;rw[u]at i;have m:(eO xs.reverse l).os=xs.reverse:=by unfold eO;rw[i,zA aE];simp
 have G:Wt H t .fill=({{H with live:=dE H.live x (x,(c.size:Int),(k:Int),Ye H.bT x)}with bS:=H.bS.set t {ls:=g.ls.set k (eO xs.reverse l),bP:=[],ph:=g.ph}},none,x,0):=by
  simp only[Wt,p,A,Uo F,VP,ZS hg,u]
 have e:=Z9 N G;have w:1<=gZ g (k:Int) x:=by
  unfold gZ;rw[A,KN,zB rfl];have:1<=(x::xs).count x:=DY.2 aA;simp only;omega
 have J:=h.rj (h.mem hg) w;have B:=h.mV (h.mem hg) w;obtain⟨S,P⟩:=d.iL (k:=k) (An (xs:=xs.reverse) D) (by rw[m];simp;omega);have Q:=h.kX hg (g':={ls:=g.ls.set k (eO xs.reverse l),bP:=[],ph:=none}) (live':=dE H.live x (x,(c.size:Int),(k:Int),Ye H.bT x)) (λk' y=>by
  rw[Ew _ B];have C:=AM hl (eO xs.reverse l) k' y;rw[i,m,List.count_reverse,List.count_nil]at C;have W:(x::xs).count y=[x].count y+xs.count y:=vA (l₁:=[x]) (l₂:=xs);unfold gZ;rw[hph,A];simp only[kh,KN,VO];by_cases j:(k:Int)=k'
  ·simp only[j,zV]at C ⊢;omega
  ·simp only[j,zz]at C ⊢;omega)
  (Go.Vc.ib h.lk) (λX E=>by
   rcases(BI B).1 E with E|rfl
   ·exact .inl E
   ·exact .inr (h.wO J F))
  (λs a M=>by cases M) ⟨S,P,λb U=>by simp at U,by simp,by unfold iG;rfl⟩
 refine⟨iW.mk' hg d.hl ⟨k,x,xs,[],by rw[p];exact A,K,(h.i63 J).1,by rw[p,u,i];simp;omega⟩ e Q (KS.refl _),.inr (.inr ?_)⟩;rw[e,G];exact⟨rfl,rfl,B,rfl⟩
theorem Wki (h:HI H held s0)(hg:H.bS[t]?=some g){m:Nat}(hph:g.ph=some (.eT m)){cl sz:Int}(hr:Rq H.tb g (.eT m) cl sz):iW H t (.eT m)/\td H t (.eT m) cl sz:=by
 have M:=(cS.1 hg).1;have b:=h.th g (h.mem hg);obtain⟨P,S,W⟩:g.bP=[]/\1<=m/\m<=64:=by have:=b.ph;unfold iG at this;rw[hph]at this;exact this
 obtain⟨rfl,rfl⟩:=hr;have K:=h.eN t;have ga:=h.wi.ga _ _ K;obtain⟨R,Y,X,L,B⟩:=h.k7.cD (H.eN t) (m:Int) 1;have wi:=h.wi.xR K (m:Int) 1;rw[show(Wd.mk H.tb s0 H.bT held).sp=s0 from rfl,←R,←Y,←X]at wi;by_cases h0:QH (H.eN t) H.sp (m:Int) 1=0
 ·rw[zB h0]at wi;have j:=Eo wi;have z:=Lw (held:=held) (new:=[(⟨H.own t, -1,Qb (H.eN t) H.sp (m:Int) 1*256,(m:Int).toNat*256,false⟩:Pc)]) (cl:=-1) (l:=[((Qb (H.eN t) H.sp (m:Int) 1*256:Nat):Int)]) (λp d=>by
   simp only[zS]at d;subst d;exact⟨rfl,rfl,by simp⟩) λx C=>by
   simp only[zS]at C;subst C;exact⟨_,zS.2 rfl,rfl⟩
  have i:(⟨H.own t, -1,Qb (H.eN t) H.sp (m:Int) 1*256,(m:Int).toNat*256,false⟩:Pc)∈held++[(⟨H.own t, -1,Qb (H.eN t) H.sp (m:Int) 1*256,(m:Int).toNat*256,false⟩:Pc)]:=by simp
  have J:=wi.size_pos i;have w:=wi.kj i;have E:=wi.owner i (x:=Qb (H.eN t) H.sp (m:Int) 1*256) (zC _) (by simp only at J ⊢;omega);generalize D:Qb (H.eN t) H.sp (m:Int) 1=V at *;have r:bV H.live ((V*256:Nat):Int)=none:=h.uK λF Q=>j _ (zS.2 rfl) F Q;have u:Wt H t (.eT m)=({{H.cB (H.own t) (cD (H.eN t) H.sp (m:Int) 1).1 with sp:=(cD (H.eN t) H.sp (m:Int) 1).2,live:=dE H.live ((V*256:Nat):Int) (((V*256:Nat):Int),((m*256:Nat):Int), -1,Ye (H.bT.set (H.own t) (cD (H.eN t) H.sp (m:Int) 1).1) ((V*256:Nat):Int))}with bS:=H.bS.set t g},none,((V*256:Nat):Int),0):=by
   have:H.bS.set t g=H.bS:=Qt hg;rw[this];simp only[Wt,h0,zV,Hw.cB,VP,D]
  have e:=Z9 (H1:={H.cB (H.own t) (cD (H.eN t) H.sp (m:Int) 1).1 with sp:=(cD (H.eN t) H.sp (m:Int) 1).2,live:=dE H.live ((V*256:Nat):Int) (((V*256:Nat):Int),((m*256:Nat):Int), -1,Ye (H.bT.set (H.own t) (cD (H.eN t) H.sp (m:Int) 1).1) ((V*256:Nat):Int))}) M u;have G:=h.fQ hg (g':={g with ph:=none}) (live':=dE H.live ((V*256:Nat):Int) (((V*256:Nat):Int),((m*256:Nat):Int), -1,Ye (H.bT.set (H.own t) (cD (H.eN t) H.sp (m:Int) 1).1) ((V*256:Nat):Int))) wi L B.l (by simp[Wd.put]) (Iv wi) (λF y=>by
   rw[Ew _ r,BF (l:=[((V*256:Nat):Int)]) (cl:=-1) aA (λy N=>by
    simp only[zS]at N;subst N;exact j _ (zS.2 rfl) _) z]
   unfold gZ;rw[hph];simp only[kh];omega) (Go.Vc.ib h.lk) (λU A=>by
    rcases(BI r).1 A with A|rfl
    ·exact .inl A
    ·refine .inr ⟨rfl,_,i,rfl,rfl,rfl,?_,?_⟩
     ·simp
     ·exact E) (λs a d=>by cases d) ⟨b.ll,b.lo,b.hb,b.hl,by
    unfold iG;exact P⟩
  refine⟨iW.mk' hg b.hl ?_ e G B,.inr (.inr ?_)⟩
  ·show Qb (H.eN t) H.sp (m:Int) 1<=1000000;rw[D];simp only at w;omega
  ·rw[e,u];exact⟨rfl,rfl,r,rfl⟩
 ·rw[zA h0]at wi;have D:Qb (H.eN t) H.sp (m:Int) 1=0:=by
   unfold QH at h0;unfold Qb;split
   ·rename_i d;rw[d,zB rfl]at h0;split at h0
    ·exact(h0 rfl).elim
    ·rename_i hn;cases C:(cZ (H.eN t) H.sp (m:Int).toNat (1:Int).toNat 41).1 with
     | none=>rfl
     | some y=>rw[C]at hn;simp at hn
   ·rfl
  have u:Wt H t (.eT m)=({{H.cB (H.own t) (cD (H.eN t) H.sp (m:Int) 1).1 with sp:=(cD (H.eN t) H.sp (m:Int) 1).2}with bS:=H.bS.set t g},none,0,QH (H.eN t) H.sp (m:Int) 1):=by
   have:H.bS.set t g=H.bS:=Qt hg;rw[this];simp only[Wt,h0,zz,Hw.cB]
  have e:=Z9 (H1:={H.cB (H.own t) (cD (H.eN t) H.sp (m:Int) 1).1 with sp:=(cD (H.eN t) H.sp (m:Int) 1).2}) M u;have G:=h.fQ hg (g':={g with ph:=none}) (live':=H.live) wi L B.l (by simp[Wd.put]) (λp d _=>.inl d) (λF y=>by
   unfold gZ;rw[hph];simp only[kh]) h.lk (λU A=>.inl A) (λs a d=>by cases d) ⟨b.ll,b.lo,b.hb,b.hl,by
    unfold iG;exact P⟩
  refine⟨iW.mk' hg b.hl ?_ e G B,.inr (.inl ?_)⟩
  ·show Qb (H.eN t) H.sp (m:Int) 1<=1000000;rw[D];omega
  ·rw[e,u];exact⟨rfl,h0,rfl,rfl⟩
theorem ND {W:Wd}(h:WI W)(hk:W.bT[k]?=some A){j:Nat}{l:List Int}(hl:∀x∈l,∃p∈W.held,mF k (j:Int) x p=true)(hn:l.Nodup)(hj:j<W.tb.length):Q3 A (j:Int) l=0/\WI (W.put k (Zj A (j:Int) l) W.sp (W.held.filter λp=>!eD k (j:Int) l p)):=by
 have ga:=h.ga k A hk;have d:jN W.held k (j:Int) l=true:=KM.2 ⟨hl,hn⟩;obtain⟨c,y,_,g,_⟩:=ga.cl (k:=j) (by rw[h.tb k A hk];exact hj);have e:Q3 A (j:Int) l=0:=by
  rw[Gz ga g];refine JZ ⟨λx u=>?_,hn⟩;obtain⟨p,s,b⟩:=hl x u;obtain⟨i,m,r,w⟩:=KJ.1 b;obtain⟨_,_,_,a,_⟩:=h.cls s m (by rw[i];exact hk);rw[r]at a;exact(K0 g).1 a
 refine⟨e,?_⟩;have:=h.Ot hk d;rw[zB e,h.Ap d]at this;exact this
theorem JS {xs:List Int}{tb:List bX}{ars0:List AR}(hH:H.tb=tb)(h:WI ⟨tb,s0,H.bT,held⟩)(hk:k<tb.length)(hxs:∀x∈xs,Um held (k:Int) x)(hn:xs.Nodup)(ha:∀p∈held,Ye ars0 (p.addr:Int)=(p.k:Int)):∀j,j<=H.bT.length →
 ∃ars',Vk H k (Z1 ars0 xs) (List.range j) = {H with bT:=ars'}/\ars'.length=H.bT.length/\WI ⟨tb,s0,ars',held.filter λp=>!(decide (p.k<j)&&(p.cls==(k:Int)&&xs.contains (p.addr:Int)))⟩
 | 0,_=>by
  refine⟨H.bT,rfl,rfl,?_⟩;have:(held.filter λp=>!(decide (p.k<0)&&(p.cls==(k:Int)&&xs.contains (p.addr:Int))))=held:=ov.2 λp _=>by simp
  rw[this];exact h
 | j+1,hj=>by
  obtain⟨ars',e,w,s⟩:=JS hH h hk hxs hn ha j O;rw[Vr,e];have m:ars'[j]?=some (ars'[j]' O):=cL _;simp only[m];have CI:∀{p:Pc},p∈held->p.k=j->((p.addr:Int)∈Z1 ars0 xs j↔(p.addr:Int)∈xs):=λ{p} b a=>by
   unfold Z1;rw[zH,ha p b,a];simp
  have d:((held.filter λp=>!(decide (p.k<j)&&(p.cls==(k:Int)&&xs.contains (p.addr:Int)))).filter λp=>!eD j (k:Int) (Z1 ars0 xs j) p)=held.filter λp=>!(decide (p.k<j+1)&&(p.cls==(k:Int)&&xs.contains (p.addr:Int))):=by
   rw[C2];apply yN;intro p b;have C:eD j (k:Int) (Z1 ars0 xs j) p=(p.k==j&&(p.cls==(k:Int)&&xs.contains (p.addr:Int))):=by
    unfold eD;by_cases a:p.k=j
    ·have:=CI b a;have A:(Z1 ars0 xs j).contains (p.addr:Int)=xs.contains (p.addr:Int):=by
      rw[mX,tL,tL];exact this
     rw[A]
    ·have:(p.k==j)=false:=by simpa using a
     rw[this];rfl
   rw[C];have z:decide (p.k<j+1)=(decide (p.k<j)||p.k==j):=by
    rw[mX];simp;omega
   rw[z];cases p.k==j<;>cases decide (p.k<j)<;>cases(p.cls==(k:Int)&&xs.contains (p.addr:Int))<;>rfl
  by_cases b:Z1 ars0 xs j=[]
  ·rw[zB b];refine⟨ars',rfl,w,?_⟩;rw[←d,b];have:∀p:Pc,(!eD j (k:Int) [] p)=true:=λp=>by simp[eD]
   rw[ov.2 λp _=>this p];exact s
  ·rw[zA b];refine⟨ars'.set j (Zj (ars'[j]' O) (k:Int) (Z1 ars0 xs j)),by simp[Hw.cB],by simp[w],?_⟩;rw[←d];refine(ND s m (j:=k) (l:=Z1 ars0 xs j) (λx r=>?_) (hn.sublist sk) hk).2;unfold Z1 at r;obtain⟨i,g⟩:=zH.1 r;obtain⟨p,b,y,B,u⟩:=hxs x i;have a:p.k=j:=by
    have:=ha p b;rw[u]at this;rw[this]at g;have:(p.k:Int)=(j:Int):=by simpa using g
    omega
   exact⟨p,zH.2 ⟨b,by simp[a]⟩,KJ.2 ⟨a,B,u,y⟩⟩
theorem Ou {tb:List bX}(hH:H.tb=tb)(h:WI ⟨tb,s0,H.bT,held⟩){own:Nat}(hown:own<H.bT.length)(hk:k<tb.length){xs:List Int}(hxs:∀x∈xs,Um held (k:Int) x)(hn:xs.Nodup) :
 ∃ars' held',Gk H own k xs = {H with bT:=ars'}/\ars'.length=H.bT.length/\WI ⟨tb,s0,ars',held'⟩/\(∀c x,Um held' c x↔Um held c x/\¬(c=(k:Int)/\x∈xs))/\∀p∈held',p.dZ=false->p∈held:=by
 have m:H.bT[own]?=some H.bT[own]:=cL hown;have w:∀p∈held,Ye H.bT (p.addr:Int)=(p.k:Int):=λp a=>h.owner a (zC _) (by have:=(h.size_pos a).1;omega);have all:∃ars' held',Vk H k (Z1 H.bT xs) (List.range H.bT.length) = {H with bT:=ars'}/\ars'.length=H.bT.length/\WI ⟨tb,s0,ars',held'⟩/\(∀c x,Um held' c x↔Um held c x/\¬(c=(k:Int)/\x∈xs))/\∀p∈held',p.dZ=false->p∈held:=by
  obtain⟨ars',e,u,j⟩:=JS hH h hk hxs hn w H.bT.length (zC _);refine⟨ars',_,e,u,j,λc x=>?_,λp a _=>(zH.1 a).1⟩;constructor
  ·rintro⟨p,a,g,i,d⟩;obtain⟨a,hf⟩:=zH.1 a;refine⟨⟨p,a,g,i,d⟩,?_⟩;rintro⟨rfl,b⟩;obtain⟨B,z,_⟩:=h.hf p a;have s:p.k<H.bT.length:=(cS.1 z).1;rw[i,d]at hf;simp[s,b]at hf
  ·rintro⟨⟨p,a,g,i,d⟩,hno⟩;refine⟨p,zH.2 ⟨a,?_⟩,g,i,d⟩;rw[i,d];by_cases hc:c=(k:Int)
   ·have:x∉xs:=λb=>hno ⟨hc,b⟩;simp[this]
   ·simp[hc]
 unfold Gk;rw[m];simp only;by_cases hcond:(Z1 H.bT xs own).length=xs.length/\Vp H.bT[own] (k:Int) xs=true
 ·rw[zB hcond];have r:∀x∈xs,Ye H.bT x=(own:Int):=by
   have g:Z1 H.bT xs own=xs:=by
    unfold Z1 at hcond ⊢;exact List.filter_sublist.eq_of_length hcond.1
   intro x b;rw[←g]at b;unfold Z1 at b;simpa using(zH.1 b).2
  have y:jN held own (k:Int) xs=true:=KM.2 ⟨λx b=>by
   obtain⟨p,a,g,i,d⟩:=hxs x b;have A:=w p a;rw[d,r x b]at A;exact⟨p,a,KJ.2 ⟨O,i,d,g⟩⟩,hn⟩
  have j:=h.Tg m y;rw[zB hcond.2]at j;exact⟨_,_,rfl,by simp[Hw.cB],j,M0 h y,OB⟩
 ·rw[zA hcond];have e:(if(Z1 H.bT xs own).length=xs.length then H.cB own (Kf H.bT[own] (k:Int) xs)else H)=H:=by
   split
   ·rename_i u;have C:Vp H.bT[own] (k:Int) xs=false:=by
     apply mn.2;intro b;exact hcond ⟨u,b⟩
    have:Kf H.bT[own] (k:Int) xs=H.bT[own]:=by unfold Kf;rw[C];rfl
    rw[this];exact Mg m
   ·rfl
  rw[e];exact all
def mY:Ph->Prop
 | .find _=>True
 | .put _ _=>True
 | .back=>True
 | .dK _ _=>True
 | .drain=>True
 | _=>False
def qA (g:Th):Ph->Nat
 | .find _=>101
 | .put _ _=>100
 | .drain=>100
 | .back=>g.bP.length
 | _=>0
def oE (H:Hw)(t:Nat)(g:Th)(p:Ph):Prop:=(Wt H t p).2.2.1=0 ∧
 ((∃p' g',(Wt H t p).2.1=some p'/\mY p'/\(∀x,p'≠.find x)/\(QW H t p).bS[t]?=some g'/\qA g' p'<qA g p)\/(Wt H t p).2.1=none) ∧
 ((∀x,p≠.find x)->(Wt H t p).2.2.2=0/\(QW H t p).live=H.live) ∧
 (∀x,p=.find x->(bV H.live x=none->(Wt H t p).2.1=none/\(Wt H t p).2.2.2≠0/\(QW H t p).live=H.live)/\(∀b,bV H.live x=some b->(Wt H t p).2.2.2=0/\(QW H t p).live=cT H.live x))
theorem BM (hg:H.bS[t]?=some g):kO H t=if g.bP=[]then none else some .back:=by unfold kO;rw[hg]
theorem Pz (h:HI H held s0)(hg:H.bS[t]?=some g){x:Int}(hph:g.ph=some (.find x)):iW H t (.find x)/\oE H t g (.find x):=by
 have E:=(cS.1 hg).1;have d:=h.th g (h.mem hg);obtain⟨P,C⟩:g.bP=[]/\iF x:=by have:=d.ph;unfold iG at this;rw[hph]at this;exact this
 have V:∀A∈H.bT,iO A:=λA R=>by
  obtain⟨j,hj⟩:=zL R;exact(h.wi.ga j A hj).kL
 cases hm:bV H.live x with
 | none=>
  have z:Wt H t (.find x)=({H with bS:=H.bS.set t g},none,0,my H x):=by
   have:H.bS.set t g=H.bS:=Qt hg;rw[this];simp only[Wt,He,hm]
  have e:=Z9 E z;have L:=h.kX hg (g':={g with ph:=none}) (live':=H.live) (λG x=>by
   unfold gZ;rw[hph];simp only[kh]) h.lk (λX M=>.inl M) (λs a N=>by cases N) ⟨d.ll,d.lo,d.hb,d.hl,by
    unfold iG;exact P⟩
  refine⟨iW.mk' hg d.hl ⟨C,λ_=>V,λb hb=>by rw[hm]at hb;cases hb⟩ e L (KS.refl _),?_⟩;unfold oE;rw[e,z];refine⟨rfl,.inr rfl,λi=>(i x rfl).elim,λy m=>?_⟩;cases m;refine⟨λ_=>⟨rfl,?_,rfl⟩,(λb hb=>by rw[hm]at hb;cases hb)⟩;show my H x≠0;unfold my
  repeat' split
  all_goals simp
 | some b=>
  have S:=KK hm;obtain⟨_,p,N,h1,U,Z,h4,Y⟩:=h.lv _ S;simp only at U Z h4 Y;have Q:0<=x:=by omega
  obtain⟨A,R,hd⟩:=h.wi.hf p N;have W:vF H t (.find x):=⟨C,(λi=>by rw[hm]at i;cases i),λ_ _=>Q⟩;rcases hd with⟨c1,_,r,hr,c2,c3⟩|⟨j,c,c1,c2,c3,_⟩
  ·have F:b.2.2.1 = -1:=by rw[←U,c1]
   have z:Wt H t (.find x)=({{H with live:=cT H.live x}with bS:=H.bS.set t g},some (.dK (x/256) b.2.2.2),0,0):=by
    have:H.bS.set t g=H.bS:=Qt hg;rw[this];simp only[Wt,He,hm];rw[zB O]
   have e:=Z9 (H1:={H with live:=cT H.live x}) E z;have u:x/256*256=x:=by omega
   have L:=h.kX hg (g':={g with ph:=some (.dK (x/256) b.2.2.2)}) (live':=cT H.live x) (λG y=>by
    have w:=DJ h.lk hm G y;rw[F]at w;unfold gZ;rw[hph];simp only[kh,u];by_cases m:x=y
    ·subst m;rw[CU]at w;by_cases hk : -1=G
     ·rw[zB hk]at w;rw[zB ⟨hk.symm,rfl⟩];omega
     ·rw[zA hk]at w;rw[zA (λC=>hk C.1.symm)];omega
    ·have:[x].count y=0:=xm.2 aE;rw[this]at w;rw[zA (λC=>m C.2.symm)];split at w<;>omega)
    (Go.Vc.jU h.lk) (λX M=>.inl (Co.1 M).1) (λs a B=>by
     cases B;exact⟨p,N,h1,c1,by rw[u];exact Z,Y⟩) ⟨d.ll,d.lo,d.hb,d.hl,by
      unfold iG;exact P⟩
   refine⟨iW.mk' hg d.hl W e L (KS.refl _),?_⟩;unfold oE;rw[e,z];refine⟨rfl,.inl ⟨_,_,rfl,trivial,(λy m=>by cases m),zM E,by simp[qA]⟩,λi=>(i x rfl).elim,λy m=>?_⟩;cases m;exact⟨(λi=>by rw[hm]at i;cases i),λ_ _=>⟨rfl,rfl⟩⟩
  ·have J:b.2.2.1=(j:Int):=by rw[←U,c1]
   have D:j<H.tb.length:=by
    rw[h.wi.tb _ _ R]at c2;exact(cS.1 c2).1
   have z:Wt H t (.find x)=({{H with live:=cT H.live x}with bS:=H.bS.set t {g with bP:=[(j,[x])]}},some (.put j x),0,0):=by
    simp only[Wt,He,hm];rw[zA O,J,dC];unfold Q0;rw[ZS (g:=g) (by exact hg),P];rfl
   have e:=Z9 (H1:={H with live:=cT H.live x}) E z;have L:=h.kX hg (g':={g with bP:=[(j,[x])],ph:=some (.put j x)}) (live':=cT H.live x) (λG y=>by
    have w:=DJ h.lk hm G y;rw[J]at w;unfold gZ;rw[hph,P];simp only[kh,KN,VO];omega)
    (Go.Vc.jU h.lk) (λX M=>.inl (Co.1 M).1) (λs a B=>by cases B) ⟨d.ll,d.lo,λb' K=>by
     simp only[zS]at K;subst K;exact⟨D,by simp,by simp⟩,by simp,by
     unfold iG;exact⟨rfl,D⟩⟩
   refine⟨iW.mk' hg d.hl W e L (KS.refl _),?_⟩;unfold oE;rw[e,z];refine⟨rfl,.inl ⟨_,_,rfl,trivial,(λy m=>by cases m),zM E,by simp[qA]⟩,λi=>(i x rfl).elim,λy m=>?_⟩;cases m;exact⟨(λi=>by rw[hm]at i;cases i),λ_ _=>⟨rfl,rfl⟩⟩
theorem Mh {f:bX->Li->List Int×Li}{tb:List bX}{ls:List Li}{b:Bt}(h:b∈Ki f tb ls):b.1<tb.length/\b.2≠[]/\∃c∈tb,∃l∈ls,b.2=(f c l).1:=by
 unfold Ki at h;obtain⟨k,d,a⟩:=xL.1 h;split at a
 ·rename_i c l hc hl;split at a
  ·cases a
  ·cases a;exact⟨zW.1 d,by assumption,c,zE hc,l,zE hl,rfl⟩
 ·cases a
theorem F9 {f:bX->Li->List Int×Li}{tb:List bX}{ls:List Li}{l':Li}(h:l'∈Kg f tb ls):∃c∈tb,∃l∈ls,l'=(f c l).2:=by
 unfold Kg at h;obtain⟨i,a⟩:=zL h;rw[DH]at a;split at a
 ·rename_i c l hc hl;cases a;exact⟨c,zE hc,l,zE hl,rfl⟩
 ·cases a
theorem JG {f:bX->Li->List Int×Li}{tb:List bX}{ls:List Li}(h:ls.length=tb.length):(Kg f tb ls).length=tb.length:=by
 unfold Kg;rw[List.length_zipWith];omega
theorem L1 (c:bX)(l:Li):(KQ c l).2.os.length<=l.os.length/\(KQ c l).1.length<=l.os.length:=by
 simp only[KQ,gS,zt,zO];omega
theorem Iy (c:bX)(l:Li):(Z2 c l).2.os.length<=l.os.length/\(Z2 c l).1.length<=l.os.length:=by
 simp only[Z2,gS,zt,zO];omega
theorem Wlw (h:HI H held s0)(hg:H.bS[t]?=some g)(hph:g.ph=some .drain):iW H t .drain/\oE H t g .drain:=by
 have p:=(cS.1 hg).1;have d:=h.th g (h.mem hg);have D:g.bP=[]:=by have:=d.ph;unfold iG at this;rw[hph]at this;exact this
 have w:=h.ng;have z:=DV Z2 H.tb g.ls;have r:Wt H t .drain=({H with bS:=H.bS.set t {g with ls:=Kg Z2 H.tb g.ls,bP:=Ki Z2 H.tb g.ls}},(if Ki Z2 H.tb g.ls=[]then none else some .back),0,0):=by
  simp only[Wt,ZS hg];rw[BM (g:={g with ls:=Kg Z2 H.tb g.ls,bP:=Ki Z2 H.tb g.ls}) (by simp[p])]
 have e:=Z9 p r;have E:=h.kX hg (g':={ls:=Kg Z2 H.tb g.ls,bP:=Ki Z2 H.tb g.ls,ph:=if Ki Z2 H.tb g.ls=[]then none else some .back}) (live':=H.live) (λu x=>by
  have L:=I0 (f:=Z2) Ry d.ll u x;unfold gZ;rw[hph,D];have:kh (if Ki Z2 H.tb g.ls=[]then none else some Ph.back) u x=0:=by split<;>rfl
  simp only[this,VO];simp only[kh];omega) h.lk (λM J=>.inl J) (λs a m=>by
   simp only at m;split at m<;>cases m) ⟨JG d.ll,λl hl=>by
   obtain⟨c,_,j,i,rfl⟩:=F9 hl;have:=d.lo j i;have:=Iy c j;exact⟨TR (d.lo j i).1,O⟩,λb K=>by
   obtain⟨G,A,c,_,j,i,C⟩:=Mh K;have:=d.lo j i;have:=Iy c j;exact⟨G,A,by rw[C];omega⟩,by simp only;omega,by
   unfold iG;by_cases ho:Ki Z2 H.tb g.ls=[]
   ·rw[zB ho];exact ho
   ·rw[zA ho];exact ho⟩
 refine⟨iW.mk' hg d.hl trivial e E (KS.refl _),?_⟩;unfold oE;rw[e,r];refine⟨rfl,?_,λ_=>⟨rfl,rfl⟩,λx F=>by cases F⟩;by_cases ho:Ki Z2 H.tb g.ls=[]
 ·exact .inr (by simp only;rw[zB ho])
 ·exact .inl ⟨.back,_,by simp only;rw[zA ho],trivial,(λy B=>by cases B),zM p,by simp only[qA];omega⟩
theorem Oa (h:HI H held s0)(hg:H.bS[t]?=some g){s a:Int}(hph:g.ph=some (.dK s a)):iW H t (.dK s a)/\oE H t g (.dK s a):=by
 have M:=(cS.1 hg).1;have b:=h.th g (h.mem hg);have R:g.bP=[]:=by have:=b.ph;unfold iG at this;rw[hph]at this;exact this
 obtain⟨p,C,W,P,h3,h4⟩:=h.gv g (h.mem hg) s a hph;obtain⟨A,m,_⟩:=h.wi.hf p C;have w:H.bT[p.k]?=some A:=m;have Q:=(cS.1 w).1;obtain⟨_,r,J,Z,Y⟩:=h.wi.run C P m;have ga:=h.wi.ga _ _ m;have d:s=(r.1:Int):=by omega
 have V:Va A s=0:=by
  unfold Va;rw[zB];unfold qG;rw[BR];exact⟨r,J,by simp[d]⟩
 have F:jN held p.k (-1) [s*256]=true:=by rw[d];exact h.wi.nP m J
 have wi:=h.wi.xG m s;rw[zB V,h.wi.Ap F]at wi;have z:a.toNat=p.k:=by omega
 have G:Wt H t (.dK s a)=({H.cB p.k (QL A s)with bS:=H.bS.set t g},none,0,0):=by
  have:H.bS.set t g=H.bS:=Qt hg;rw[this];simp only[Wt,z,w,Hw.cB]
 have e:=Z9 (H1:=H.cB p.k (QL A s)) M G;have S:=h.fQ hg (g':={g with ph:=none}) (live':=H.live) wi h.k7 rfl (by simp[Wd.put]) (λq D _=>.inl (zH.1 D).1) (λu x=>by
  have i:=Jt (held':=held.filter λE=>!eD p.k (-1) [s*256] E) (l:=[s*256]) (cl:=-1) aA (Wpd F) (OS h.wi F) u x;have i:k5 held u x=k5 (held.filter λE=>!eD p.k (-1) [s*256] E) u x+(if -1=u then[s*256].count x else 0):=i
  unfold gZ;rw[hph];simp only[kh];by_cases hy:s*256=x
  ·subst hy;rw[CU]at i;by_cases hk : -1=u
   ·rw[zB hk]at i;rw[zB ⟨hk.symm,rfl⟩];omega
   ·rw[zA hk]at i;rw[zA (λy=>hk y.1.symm)];omega
  ·have:[s*256].count x=0:=xm.2 aE;rw[this]at i;rw[zA (λy=>hy y.2.symm)];split at i<;>omega) h.lk (λX U=>.inl U) (λs a C=>by cases C) ⟨b.ll,b.lo,b.hb,b.hl,by
   unfold iG;exact R⟩
 refine⟨iW.mk' hg b.hl ⟨O,O,λB L q D=>?_⟩ e S (KS.refl _),?_⟩
 ·obtain⟨j,N⟩:=zL L;have K:=h.wi.ga j B N;have:=K.fit D;have:=K.pg.n2;omega
 ·unfold oE;rw[e,G];exact⟨rfl,.inr rfl,λ_=>⟨rfl,rfl⟩,λx y=>by cases y⟩
theorem Ol (h:HI H held s0)(hg:H.bS[t]?=some g)(hph:g.ph=some .back):iW H t .back/\oE H t g .back:=by
 have D:=(cS.1 hg).1;have d:=h.th g (h.mem hg);have R:g.bP≠[]:=by have:=d.ph;unfold iG at this;rw[hph]at this;exact this
 have A:=G6 hg;cases hhd:g.bP with
 | nil=>exact(R hhd).elim
 | cons b r=>
  obtain⟨k,z⟩:=b;obtain⟨L,B,G⟩:=d.hb (k,z) (by rw[hhd];simp);simp only at L B G;have m:∀x,z.count x<=gZ g (k:Int) x:=λx=>by
   unfold gZ;rw[hhd,KN,zB rfl];simp only;omega
  have i:∀x∈z,Um held (k:Int) x:=λx u=>h.rj (h.mem hg) (zI (DY.2 u) (m x));have C:z.Nodup:=BP.2 λx=>by
   have Q:=m x;have V:=h.pL (h.mem hg) (k:Int) x;have X:=I6 held (k:Int) x;omega
  obtain⟨j,F,M,E,wi,um,sub⟩:=Ou (H:={H with bS:=H.bS.set t {g with bP:=r}}) (tb:=H.tb) rfl h.wi (h.kG t) L i C;have J:Wt H t .back=({{H with bT:=j}with bS:=H.bS.set t {g with bP:=r}},(if r=[]then none else some .back),0,0):=by
   simp only[Wt,A,hhd,ZS hg,M];rw[BM (g:={g with bP:=r}) (by simp[D])]
  have e:=Z9 (H1:={H with bT:=j}) D J;have S:=h.fQ hg (g':={g with bP:=r,ph:=if r=[]then none else some .back}) (live':=H.live) wi h.k7 rfl E (λp w N=>.inl (sub p w N)) (λK x=>by
   have Q:=Jt C i um K x;unfold gZ;rw[hph,hhd,KN];have:kh (if r=[]then none else some Ph.back) K x=0:=by split<;>rfl
   simp only[this];simp only[kh];omega) h.lk (λW U=>.inl U) (λs a w=>by
    simp only at w;split at w<;>cases w) ⟨d.ll,d.lo,λb hb=>d.hb b (by rw[hhd];exact lz _ hb),by have:=d.hl;rw[hhd]at this;simp at this ⊢;omega,by
    unfold iG;by_cases ho:r=[]
    ·rw[zB ho];exact ho
    ·rw[zA ho];exact ho⟩
  refine⟨iW.mk' hg d.hl ⟨k,z,r,by rw[A];exact hhd,λx u=>⟨(h.i63 (i x u)).1,(h.i63 (i x u)).2.2⟩,O⟩ e S (KS.refl _),?_⟩;unfold oE;rw[e,J];refine⟨rfl,?_,λ_=>⟨rfl,rfl⟩,λx u=>by cases u⟩;by_cases ho:r=[]
  ·exact .inr (by simp only;rw[zB ho])
  ·exact .inl ⟨.back,_,by simp only;rw[zA ho],trivial,(λy P=>by cases P),zM D,by simp only[qA];rw[hhd];simp⟩
theorem N1 (h:HI H held s0)(hg:H.bS[t]?=some g){x:Int}(hph:g.ph=some (.put k x)):iW H t (.put k x)/\oE H t g (.put k x):=by
 have B:=(cS.1 hg).1;have r:=h.th g (h.mem hg);obtain⟨L,K⟩:g.bP=[(k,[x])]/\k<H.tb.length:=by have:=r.ph;unfold iG at this;rw[hph]at this;exact this
 obtain⟨c,hc,G⟩:=h.cls K;obtain⟨l,hl,Z,D,hlm⟩:=r.li K;have E:=G6 hg;have h40:=h.ng;have S:=O7 (x:=x) G D;have P:=δ c x l O;have Q:(dS c x l).1.length<=129/\(dS c x l).2.os.length<=128:=by
  have ac:=D.lim;have z:(eO [x] l).os=l.os++[x]:=by unfold eO;rw[zA aE]
  have R:(nC c (eO [x] l)).os=l.os++[x]:=by rw[←z];unfold nC;split<;>rfl
  unfold bX.ok at G;unfold dS;rw[zA O];split
  ·rw[z];simp;omega
  ·simp only[gS,R,zO,zt,zJ,sI];omega
 obtain⟨X,N⟩:=r.iL (k:=k) S Q.2;have Y:∃hs:List Bt,(if(dS c x l).1=[]then[]else[(k,(dS c x l).1)])=hs:=⟨_,rfl⟩
 obtain⟨i,j⟩:=Y;have ab:i.length<=1:=by rw[←j];split<;>simp
 have u:∀b∈i,b.1<H.tb.length/\b.2≠[]/\b.2.length<=256:=λb p=>by
  rw[←j]at p;split at p
  ·simp at p
  ·simp only[zS]at p;subst p;exact⟨K,by assumption,by simp only;omega⟩
 have F:∀d y,mH i d y=if(k:Int)=d then(dS c x l).1.count y else 0:=λd y=>by
  rw[←j];split
  ·rename_i hn;rw[hn,VO];simp
  ·simp only[KN,VO,zr]
 let g3:Th:={g with ls:=g.ls.set k (dS c x l).2,bP:=i}
 let g4:Th:=if H.cf.dB<QB H.tb g3.ls then{g3 with ls:=Kg KQ H.tb g3.ls,bP:=g3.bP++Ki KQ H.tb g3.ls}else g3
 have V:iJ H t k x = {H with bS:=H.bS.set t g4}:=by
  have e2:(if(dS c x l).1=[]then H.eA t λh=>h.iL k (dS c x l).2 else Q0 (H.eA t λh=>h.iL k (dS c x l).2) t k (dS c x l).1) = {H with bS:=H.bS.set t {g with ls:=g.ls.set k (dS c x l).2,bP:=(k,[x])::i}}:=by
   rw[←j];split
   ·rw[ZS hg,←L];rfl
   ·rw[ZS hg];unfold Q0;rw[ZS (g:=g.iL k (dS c x l).2) (by simp[B])];simp only[oD,Th.iL,L];rfl
  have e3:({H with bS:=H.bS.set t {g with ls:=g.ls.set k (dS c x l).2,bP:=(k,[x])::i}}:Hw).eA t (λh=>{h with bP:=h.bP.drop 1}) = {H with bS:=H.bS.set t g3}:=by
   rw[ZS (g:={g with ls:=g.ls.set k (dS c x l).2,bP:=(k,[x])::i}) (by simp[B])];simp only[oD,Av,List.drop_zero];rfl
  have w:({H with bS:=H.bS.set t g3}:Hw).bS[t]?=some g3:=by simp[B]
  unfold iJ;simp only[Uo hc,E,Z,e2,e3,G6 w,ZS w,oD];show(if H.cf.dB<QB H.tb g3.ls then _ else _)=_
  simp only[g4];split<;>rfl
 have hg4:g4.ph=g.ph:=by simp only[g4];split<;>rfl
 have W:∀d y,mD g4.ls d y+mH g4.bP d y=mD g.ls d y+mH g.bP d y:=λd y=>by
  have U:=AM hl (dS c x l).2 d y;have h2:=P y;have h3:mD g3.ls d y+mH g3.bP d y=mD g.ls d y+mH g.bP d y:=by
   simp only[g3];rw[F,L,KN,VO];by_cases hkk:(k:Int)=d
   ·simp only[hkk,zV]at U ⊢;omega
   ·simp only[hkk,zz]at U ⊢;omega
  simp only[g4];split
  ·have h4:=I0 (f:=KQ) Po (tb:=H.tb) (ls:=g3.ls) X d y;simp only[Ln];omega
  ·exact h3
 have m:g4.ls.length=H.tb.length/\(∀l∈g4.ls,fT l/\l.os.length<=128)/\(∀b∈g4.bP,b.1<H.tb.length/\b.2≠[]/\b.2.length<=256)/\g4.bP.length<=41:=by
  have hsl:=DV KQ H.tb g3.ls;simp only[g4];split
  ·refine⟨JG X,λl hl=>?_,λb p=>?_,by simp only[zJ,g3]at *;omega⟩
   ·obtain⟨J,aa,C,A,rfl⟩:=F9 hl;have h5:=N C A;have:=L1 J C;exact⟨L5 (h.ok J aa) h5.1,O⟩
   ·rcases zP.1 p with p|p
    ·exact u b p
    ·obtain⟨b1,b2,J,_,C,A,b3⟩:=Mh p;have h5:=N C A;have:=L1 J C;exact⟨b1,b2,by rw[b3];omega⟩
  ·exact⟨X,N,u,by simp only[g3];omega⟩
 have hs:Wt H t (.put k x)=({H with bS:=H.bS.set t g4},(if g4.bP=[]then none else some .back),0,0):=by
  show(iJ H t k x,kO (iJ H t k x) t,0,0)=_;rw[V,BM (g:=g4) (by simp[B])]
 have e:=Z9 B hs;have hi:=h.kX hg (g':={g4 with ph:=if g4.bP=[]then none else some .back}) (live':=H.live) (λd y=>by
  have U:=W d y;unfold gZ;rw[hph];have:kh (if g4.bP=[]then none else some Ph.back) d y=0:=by split<;>rfl
  simp only[this];simp only[kh];omega) h.lk (λe' he=>.inl he) (λs a M=>by
   simp only at M;split at M<;>cases M) ⟨m.1,m.2.1,m.2.2.1,m.2.2.2,by
   unfold iG;by_cases ho:g4.bP=[]
   ·simp only[ho,zV]
   ·simp only[ho,zz];exact ho⟩
 refine⟨iW.mk' hg r.hl ⟨K,by rw[E,L];simp⟩ e hi (KS.refl _),?_⟩;unfold oE;rw[e,hs];refine⟨rfl,?_,λ_=>⟨rfl,rfl⟩,λx hx=>by cases hx⟩;by_cases ho:g4.bP=[]
 ·exact .inr (by simp only;rw[zB ho])
 ·exact .inl ⟨.back,_,by simp only;rw[zA ho],trivial,(λy hy=>by cases hy),zM B,by simp only[qA];have:=m.2.2.2;omega⟩
end Go.Ar
namespace Go.Ar
open Go Go.Vc Go.Proofs
open Go.Bu (gG Bn BJ)
variable {σ u w w':Hp}{F B P Q:Rg}{L:dP}{H H':Hw}{t n:Nat}{g:Th}
def xS (size:Int):Int:=(size+255)/256*256
def ug (tb:List bX)(size align:Int):Int×Int:=
 if size<=16384/\KZ size align=true then(match gR tb size align with
  | some k=>((tb.getD k ⟨8,1,1⟩).size:Int)
  | none=>xS size,0)else(0,1)
theorem Ζ {a:Int}(h1:1<=a)(h2:a<=256):(bits .and .i64 a (a-1) != 0) = !gG a:=by
 obtain⟨a,rfl⟩:=zk (show 0<=a by omega);rw[show(a:Int)-1=((a-1:Nat):Int) by omega,Go.Bu.jx O O,Bn,←BJ O O];simp only[bne,Bool.not_inj_iff];rw[mX];simp only[zZ];omega
end Go.Ar
namespace Go.Ar
open Go Go.Vc Go.Proofs
variable {σ u w w':Hp}{F B P Q:Rg}{L:dP}{H H':Hw}{t n:Nat}{g:Th}
theorem Ir {tb:List bX}{size align:Int}{k:Nat}(h:gR tb size align=some k):k<tb.length:=(yI.1 h).1
end Go.Ar
namespace Go.Ar
open Go.Vc (bV dE cT)
variable {H H':Hw}{held:List Pc}{s0:Sp}{t k j:Nat}{g:Th}{A:AR}{c:bX}
theorem KO (f:Th->Th)(hj:j≠t):(H.eA t f).bS[j]?=H.bS[j]? := by
 simp[Hw.eA,ur,Ne.symm hj]
theorem TZ (x:Int)(hj:j≠t):(iJ H t k x).bS[j]?=H.bS[j]? := by
 unfold iJ Q0;simp only;split<;>split<;>simp only[KO _ hj]
theorem Pv (p:Ph)(hj:j≠t):(Wt H t p).1.bS[j]?=H.bS[j]? := by
 cases p with
 | take k=>simp only[Wt];split<;>simp only[VP,KO _ hj]
 | cO k w=>
  simp only[Wt];split
  ·split
   ·unfold Q0;rw[KO _ hj];rfl
   ·rfl
  ·rfl
 | cQ k w=>
  simp only[Wt];split
  ·rfl
  ·unfold Q0;rw[KO _ hj];rfl
 | grow k w=>simp only[Wt];split<;>rfl
 | fill=>simp only[Wt];split<;>simp only[VP,KO _ hj]
 | eT m=>simp only[Wt];split<;>rfl
 | find x=>
  simp only[Wt,He];split
  ·rfl
  ·split
   ·rfl
   ·unfold Q0;rw[KO _ hj]
 | put k x=>exact TZ x hj
 | back=>
  simp only[Wt];split
  ·rw[EC,KO _ hj]
  ·rfl
 | dK s a=>simp only[Wt];split<;>rfl
 | drain=>simp only[Wt,KO _ hj]
theorem H7 (p:Ph)(hj:j≠t):(QW H t p).bS[j]?=H.bS[j]? := by
 unfold QW eV;rw[KO _ hj,Pv p hj]
def gW (H:Hw)(j:Nat):Option Ph:=(H.bS[j]?).bind (·.ph)
def wM (H H':Hw)(t:Nat):Prop:=gW H' t=none/\∀j,j≠t->gW H' j=gW H j
theorem En (h:HI H held s0)(hg:H.bS[t]?=some g){p:Ph}(hp:g.ph=some p){cl sz:Int}(hr:Rq H.tb g p cl sz):iW H t p/\td H t p cl sz:=by
 cases p with
 | take k=>exact Woy h hg hp hr
 | cO k w=>exact Oe h hg hp hr
 | cQ k w=>exact S7 h hg hp hr
 | grow k w=>exact ε h hg hp hr
 | fill=>exact Oo h hg hp hr
 | eT m=>exact Wki h hg hp hr
 | find x=>exact hr.elim
 | put k x=>exact hr.elim
 | back=>exact hr.elim
 | dK s a=>exact hr.elim
 | drain=>exact hr.elim
theorem EE (h:HI H held s0)(hg:H.bS[t]?=some g){p:Ph}(hp:g.ph=some p)(hf:mY p):iW H t p/\oE H t g p:=by
 cases p with
 | take k=>exact hf.elim
 | cO k w=>exact hf.elim
 | cQ k w=>exact hf.elim
 | grow k w=>exact hf.elim
 | fill=>exact hf.elim
 | eT m=>exact hf.elim
 | find x=>exact Pz h hg hp
 | put k x=>exact N1 h hg hp
 | back=>exact Ol h hg hp
 | dK s a=>exact Oa h hg hp
 | drain=>exact Wlw h hg hp
theorem yz {p:Ph}(ht:t<H.bS.length):∃g',(QW H t p).bS[t]?=some g'/\g'.ph=(Wt H t p).2.1:=LK ht
theorem FQ {cl sz:Int}:∀(n:Nat) {H:Hw} {held:List Pc} {s0:Sp} {g:Th} {p:Ph},HI H held s0->H.bS[t]?=some g->g.ph=some p->Rq H.tb g p cl sz->pM H t p<=n →
 ∃m H' a e,iU m H t p H' a e/\(∃held s0,HI H' held s0)/\KS H.sp H'.sp/\wM H H' t/\((e≠0/\a=0/\H'.live=H.live)\/(e=0/\bV H.live a=none/\H'.live=dE H.live a (a,sz,cl,Ye H'.bT a)))
 | n,H,held,s0,g,p,h,hg,hp,hr,hn=>by
  have ht:=(cS.1 hg).1;obtain⟨s,E⟩:=En h hg hp hr;have d:(Wt H t p).2.1=none->wM H (QW H t p) t:=λC=>by
   obtain⟨F,y,x⟩:=yz (p:=p) ht;exact⟨by unfold gW;rw[y];exact x.trans C,λj u=>by unfold gW;rw[H7 p u]⟩
  rcases E with⟨p',F,e1,e2,e3,e4,e5⟩|⟨e1,e2,e3,e4⟩|⟨e1,e2,e3,e4⟩
  ·obtain⟨w,B,G⟩:=s.hi;obtain⟨J,b,jZ⟩:=yz (p:=p) ht;rw[e3]at b;cases b;have z:(QW H t p).tb=H.tb:=(GM H t p).1;have D:pM (QW H t p) t p'<n:=by omega
   obtain⟨m,H',a,e,r,hi,ks,A,i⟩:=FQ (pM (QW H t p) t p') G e3 (jZ.trans e1) (by rw[z];exact e4) (zC _);refine⟨m+1,H',a,e,.next s.ok e1 r,hi,s.ks.trans ks,⟨A.1,λj u=>(A.2 j u).trans (by unfold gW;rw[H7 p u])⟩,?_⟩;rw[e2]at i;exact i
  ·exact⟨1,_,_,_,.done s.ok e1,s.hi,s.ks,d e1,.inl ⟨e2,e3,e4⟩⟩
  ·exact⟨1,_,_,_,.done s.ok e1,s.hi,s.ks,d e1,.inr ⟨e2,e3,e4⟩⟩
termination_by n=>n
theorem F2:∀(n:Nat) {H:Hw} {held:List Pc} {s0:Sp} {g:Th} {p:Ph},HI H held s0->H.bS[t]?=some g->g.ph=some p->mY p->qA g p<=n →
 ∃m H' e,iU m H t p H' 0 e/\(∃held s0,HI H' held s0)/\KS H.sp H'.sp/\wM H H' t/\((∀x,p≠.find x)->e=0/\H'.live=H.live) ∧
  (∀x,p=.find x->(bV H.live x=none->e≠0/\H'.live=H.live)/\(∀b,bV H.live x=some b->e=0/\H'.live=cT H.live x))
 | n,H,held,s0,g,p,h,hg,hp,hf,hn=>by
  have ht:=(cS.1 hg).1;obtain⟨s,M,N,E,a⟩:=EE h hg hp hf;rcases N with⟨p',B,e1,e2,e3,e4,e5⟩|e1
  ·obtain⟨w,K,P⟩:=s.hi;obtain⟨R,i,jZ⟩:=yz (p:=p) ht;rw[e4]at i;cases i;have L:qA B p'<n:=by omega
   obtain⟨m,H',e,r,hi,ks,J,D,_⟩:=F2 (qA B p') P e4 (jZ.trans e1) e2 (zC _);obtain⟨F,G⟩:=D e3;refine⟨m+1,H',e,.next s.ok e1 r,hi,s.ks.trans ks,⟨J.1,λj u=>(J.2 j u).trans (by unfold gW;rw[H7 p u])⟩,λd=>⟨F,G.trans (E d).2⟩,λx d=>⟨λA=>?_,λb Q=>⟨F,G.trans ((a x d).2 b Q).2⟩⟩⟩;have:=((a x d).1 A).1;rw[e1]at this;cases this
  ·have C:wM H (QW H t p) t:=by
    obtain⟨B,z,y⟩:=yz (p:=p) ht;exact⟨by unfold gW;rw[z];exact y.trans e1,λj u=>by unfold gW;rw[H7 p u]⟩
   have r:=iU.done (H:=H) (t:=t) s.ok e1;rw[M]at r;exact⟨1,_,_,r,s.hi,s.ks,C,E,λx d=>⟨λA=>((a x d).1 A).2,(a x d).2⟩⟩
termination_by n=>n
structure iR (H H':Hw):Prop where
 hi:∃held s0,HI H' held s0
 ks:KS H.sp H'.sp
 kp:Qf H' H
 ph:∀j,gW H' j=gW H j
theorem iR.refl (h:HI H held s0):iR H H:=⟨⟨held,s0,h⟩,KS.refl _,Qf.refl _,λ_=>rfl⟩
theorem iR.trans {H1 H2 H3:Hw}(a:iR H1 H2)(b:iR H2 H3):iR H1 H3:=⟨b.hi,a.ks.trans b.ks,a.kp.trans b.kp,λj=>(b.ph j).trans (a.ph j)⟩
theorem BW {tb:List bX}{kind size align addr:Int}{p:Ph}(h:jf tb kind size align addr=some p)(hx:iF addr)(hh:g.bP=[]):iG tb.length {g with ph:=some p}:=by
 unfold jf at h;split at h
 ·split at h
  ·split at h
   ·split at h
    ·rename_i k hk;cases h;exact⟨hh,Ir hk⟩
    ·cases h;exact⟨hh,O,O⟩
   ·cases h
  ·cases h
 ·split at h
  ·cases h;exact⟨hh,hx⟩
  ·split at h
   ·cases h;exact hh
   ·cases h
theorem HI.eV (h:HI H held s0)(hg:H.bS[t]?=some g)(hn:g.ph=none){p:Ph}(hp:iG H.tb.length {g with ph:=some p})(hq:∀s a,p≠.dK s a):HI (eV H t (some p)) held s0:=by
 have b:=h.th g (h.mem hg);have e:Go.Ar.eV H t (some p) = {H with bS:=H.bS.set t {g with ph:=some p}}:=ZS hg _;rw[e];refine h.kX hg (live':=H.live) (λd x=>?_) h.lk (λj i=>.inl i) (λs a hp=>by cases hp;exact(hq s a rfl).elim) ⟨b.ll,b.lo,b.hb,b.hl,hp⟩;unfold gZ;rw[hn];have:kh (some p) d x=0:=by
  cases p<;>first|rfl|exact(hq _ _ rfl).elim
 simp only[this];simp only[kh]
theorem Gq (h:HI H held s0)(hg:H.bS[t]?=some g)(hn:g.ph=none):g.bP=[]:=by
 have:=(h.th g (h.mem hg)).ph;unfold iG at this;rw[hn]at this;exact this
theorem UL (H:Hw)(thread kind size align addr:Int):(∃e,KR H thread kind size align addr=.inl e/\e≠0)\/∃(t:Nat) (p:Ph) (g:Th),thread=(t:Int)/\H.bS[t]?=some g/\g.ph=none/\jf H.tb kind size align addr=some p/\KR H thread kind size align addr=.inr (t,p):=by
 unfold KR;split
 ·split
  ·split
   ·split
    ·rename_i hth _ g hg hn _ p hp;exact .inr ⟨thread.toNat,p,g,O,hg,hn,hp,rfl⟩
    ·exact .inl ⟨1,rfl,by decide⟩
   ·exact .inl ⟨5,rfl,by decide⟩
  ·exact .inl ⟨1,rfl,by decide⟩
 ·exact .inl ⟨1,rfl,by decide⟩
theorem PF (hg:H.bS[t]?=some g)(p:Option Ph)(hj:j≠t):gW (eV H t p) j=gW H j:=by
 unfold gW eV;rw[KO _ hj]
theorem Iw (hg:H.bS[t]?=some g)(hn:g.ph=none){p:Ph}(ps:wM (eV H t (some p)) H' t):∀j,gW H' j=gW H j:=λj=>by
 by_cases hj:j=t
 ·subst hj;rw[ps.1];unfold gW;rw[hg];exact hn.symm
 ·rw[ps.2 j hj,PF hg _ hj]
def uu (H:Hw)(size align:Int)(H':Hw)(a e:Int):Prop:=(e≠0/\a=0/\H'.live=H.live) ∨
 (e=0/\bV H.live a=none/\(1<=size/\size<=16384/\KZ size align=true)/\∃cl,H'.live=dE H.live a (a,(ug H.tb size align).1,cl,Ye H'.bT a)/\((∃k:Nat,cl=k/\gR H.tb size align=some k)\/cl = -1/\gR H.tb size align=none))
theorem Nk (h:HI H held s0)(thread size align:Int):∃H' a e,Hg H thread 0 size align 0 H' a e/\iR H H'/\uu H size align H' a e:=by
 rcases UL H thread 0 size align 0 with⟨e,hs,hne⟩|⟨t,p,g,rfl,hg,hn,hq,hs⟩
 ·exact⟨H,0,e,.inl ⟨hs,hne,rfl,rfl⟩,iR.refl h,.inl ⟨hne,rfl,rfl⟩⟩
 ·have B:=Gq h hg hn;have u:=BW (g:=g) hq (by unfold iF;decide) B;unfold jf at hq;rw[zB rfl]at hq;split at hq
  ·rename_i hsz;split at hq
   ·rename_i hok;have b:ug H.tb size align=(match gR H.tb size align with
     | some k=>((H.tb.getD k ⟨8,1,1⟩).size:Int)
     | none=>xS size,0):=by
     unfold ug;rw[zB ⟨hsz.2,hok⟩]
     first|done | (cases gR H.tb size align<;>rfl)
    obtain⟨cl,d,x⟩:∃cl,Rq H.tb {g with ph:=some p} p cl (ug H.tb size align).1/\((∃k:Nat,cl=k/\gR H.tb size align=some k)\/cl = -1/\gR H.tb size align=none):=by
     cases hcv:gR H.tb size align with
     | some k=>
      rw[hcv]at hq b;cases hq;have j:=Ir hcv;have z:H.tb[k]?=some H.tb[k]:=cL j;refine⟨k,⟨rfl,H.tb[k],z,?_⟩,.inl ⟨k,rfl,rfl⟩⟩;rw[b];simp only;rw[zN,z];rfl
     | none=>
      rw[hcv]at hq b;cases hq;refine⟨-1,⟨rfl,?_⟩,.inr ⟨rfl,rfl⟩⟩;rw[b];simp only;unfold xS;omega
    have i:∀s a,p≠.dK s a:=λs a e=>by subst e;exact d.elim
    have A:=h.eV hg hn u i;have w:(Go.Ar.eV H t (some p)).bS[t]?=some {g with ph:=some p}:=by
     have D:=(cS.1 hg).1;have e:Go.Ar.eV H t (some p) = {H with bS:=H.bS.set t {g with ph:=some p}}:=ZS hg _;rw[e];simp[D]
    obtain⟨m,H',a,e,r,C,ks,E,y⟩:=FQ _ A w rfl d (zC _);refine⟨H',a,e,.inr ⟨t,p,m,hs,r⟩,⟨C,ks,(KP _ _ _).trans (J5 r),Iw hg hn E⟩,?_⟩;rcases y with⟨r1,r2,r3⟩|⟨r1,r2,r3⟩
    ·exact .inl ⟨r1,r2,r3⟩
    ·exact .inr ⟨r1,r2,⟨hsz.1,hsz.2,hok⟩,cl,r3,x⟩
   ·cases hq
  ·cases hq
def tZ (H:Hw)(thread addr:Int)(H':Hw)(e:Int):Prop:=
 (e≠0/\H'=H/\KR H thread 1 0 0 addr=.inl e)\/((∃p,KR H thread 1 0 0 addr=.inr p)/\bV H.live addr=none/\e≠0/\H'.live=H.live)\/((∃p,KR H thread 1 0 0 addr=.inr p)/\∃b,bV H.live addr=some b/\e=0/\H'.live=cT H.live addr)
theorem LY (h:HI H held s0)(hg:H.bS[t]?=some g)(hn:g.ph=none){p:Ph}(hp:iG H.tb.length {g with ph:=some p})(hf:mY p)(hq:∀s a,p≠.dK s a):∃m H' e,iU m (eV H t (some p)) t p H' 0 e/\iR H H'/\((∀x,p≠.find x)->e=0/\H'.live=H.live) ∧
 (∀x,p=.find x->(bV H.live x=none->e≠0/\H'.live=H.live)/\(∀b,bV H.live x=some b->e=0/\H'.live=cT H.live x)):=by
 have i:=h.eV hg hn hp hq;have d:(Go.Ar.eV H t (some p)).bS[t]?=some {g with ph:=some p}:=by
  have y:=(cS.1 hg).1;have e:Go.Ar.eV H t (some p) = {H with bS:=H.bS.set t {g with ph:=some p}}:=ZS hg _;rw[e];simp[y]
 obtain⟨m,H',e,r,w,ks,j,u,z⟩:=F2 _ i d rfl hf (zC _);exact⟨m,H',e,r,⟨w,ks,(KP _ _ _).trans (J5 r),Iw hg hn j⟩,u,z⟩
theorem TM (h:HI H held s0)(thread addr:Int)(hx:iF addr):∃H' e,Hg H thread 1 0 0 addr H' 0 e/\iR H H'/\tZ H thread addr H' e:=by
 rcases UL H thread 1 0 0 addr with⟨e,hs,hne⟩|⟨t,p,g,rfl,hg,hn,hq,hs⟩
 ·exact⟨H,e,.inl ⟨hs,hne,rfl,rfl⟩,iR.refl h,.inl ⟨hne,rfl,hs⟩⟩
 ·have d:=BW (g:=g) hq hx (Gq h hg hn);have j:p=.find addr:=by unfold jf at hq;simp at hq;exact hq.symm
  subst j;obtain⟨m,H',e,r,op,_,i⟩:=LY h hg hn d trivial (λs a e=>by cases e);refine⟨H',e,.inr ⟨t,_,m,hs,r⟩,op,?_⟩;cases hm:bV H.live addr with
  | none=>exact .inr (.inl ⟨⟨_,hs⟩,hm,(i addr rfl).1 hm⟩)
  | some b=>exact .inr (.inr ⟨⟨_,hs⟩,b,hm,(i addr rfl).2 b hm⟩)
theorem SY (h:HI H held s0)(thread:Int):∃H' e,Hg H thread 2 0 0 0 H' 0 e/\iR H H'/\H'.live=H.live:=by
 rcases UL H thread 2 0 0 0 with⟨e,hs,hne⟩|⟨t,p,g,rfl,hg,hn,hq,hs⟩
 ·exact⟨H,e,.inl ⟨hs,hne,rfl,rfl⟩,iR.refl h,rfl⟩
 ·have b:=BW (g:=g) hq (by unfold iF;decide) (Gq h hg hn);have i:p=.drain:=by unfold jf at hq;simp at hq;exact hq.symm
  subst i;obtain⟨m,H',e,r,op,d,_⟩:=LY h hg hn b trivial (λs a e=>by cases e);exact⟨H',e,.inr ⟨t,_,m,hs,r⟩,op,(d λx e=>by cases e).2⟩
end Go.Ar
namespace Go.Ar
open Go Go.Vc Go.Proofs
variable {σ u w w':Hp}{F B P Q:Rg}{L:dP}{H H':Hw}{t n k:Nat}{A:AR}{Y:Lay}
theorem Fr.refl (A:AR):Fr A A:=⟨rfl,rfl,rfl⟩
theorem Fr.trans {A B C:AR}(h:Fr B A)(k:Fr C B):Fr C A:=⟨k.1.trans h.1,k.2.1.trans h.2.1,k.2.2.trans h.2.2⟩
theorem EA {α:Type}(f:AR×Sp->α->AR×Sp)(hf:∀p x,Fr (f p x).1 p.1):∀(l:List α) (p:AR×Sp),Fr (l.foldl f p).1 p.1
 | [],p=>Fr.refl _
 | x::l,p=>(hf p x).trans (EA f hf l (f p x))
theorem Fo (A:AR)(sp:Sp):Fr (eL A sp).1 A:=EA Vx (λp x=>⟨rfl,rfl,rfl⟩) _ _
theorem Ro (A:AR):Fr (YO A) A:=⟨(VB _ A).1,(VB _ A).2.1,(VB _ A).2.2.1⟩
theorem Fp (A:AR)(sp:Sp)(want:Int):Fr (dU A sp want).1 A:=by
 unfold dU;split
 ·exact Fr.refl A
 ·exact(Ro A).trans (EA fD (λp x=>⟨rfl,rfl,rfl⟩) _ _)
theorem Wj4 (h:HH σ F L H)(hk:H.bT[k]?=some A)(hy:L.ys[k]?=some Y){R:aN}
 (hR:∀σ',Ext F σ σ'->HH σ' (Grow F σ) L {H.cB k (eL A H.sp).1 with sp:=(eL A H.sp).2}->R ((vj A:Nat):Int) σ'):Yw.c (aW Y.p) σ R:=by
 obtain⟨Y',G,D,d,_,m,a⟩:=h.mf hk;rw[hy]at d;cases d;refine OC m λσ' e s=>?_;have i:cG (eL A H.sp).1 Y=cG A Y:=(Fo A H.sp).cG Y;obtain⟨r,j⟩:=a σ' _ _ (Cut G σ) (Cut D σ) (Fo A H.sp).1 e ⟨λb g=>.inl g.1,λb g=>g.1⟩ (by rw[i];exact s);exact hR σ' r j
theorem Pt (h:HH σ F L H)(hk:H.bT[k]?=some A)(hy:L.ys[k]?=some Y)(want:Int)(h12:(VG (YO A).st).length<=12){R:Int->Int->Hp->Prop}
 (hR:∀σ',Ext F σ σ'->HH σ' (Grow F σ) L {H.cB k (dU A H.sp want).1 with sp:=(dU A H.sp want).2}->R ((kH A want:Nat):Int) (oh want) σ'):Xg.c (aW Y.p) want σ R:=by
 obtain⟨Y',G,D,b,_,j,a⟩:=h.mf hk;rw[hy]at b;cases b;refine Wfh j want h12 λσ' G' D' g e r=>?_;have d:cG (dU A H.sp want).1 Y=cG A Y:=(Fp A H.sp want).cG Y;obtain⟨m,i⟩:=a σ' _ _ G' D' (Fp A H.sp want).1 e g (by rw[d];exact r);exact hR σ' m i
def QN (H:Hw)(n:Nat):Hw×Nat:=(List.range n).foldl (λ(p:Hw×Nat) k=>match p.1.bT[k]? with
 | some A=>({p.1.cB k (eL A p.1.sp).1 with sp:=(eL A p.1.sp).2},p.2+vj A)
 | none=>p) (H,0)
theorem U9 (n:Nat):QN H (n+1)=(match (QN H n).1.bT[n]? with
 | some A=>({(QN H n).1.cB n (eL A (QN H n).1.sp).1 with sp:=(eL A (QN H n).1.sp).2},(QN H n).2+vj A)
 | none=>QN H n):=by
 unfold QN;rw[zw,m6];rfl
theorem Te (H:Hw)(n:Nat):Qf (QN H n).1 H:=by
 induction n with
 | zero=>exact Qf.refl H
 | succ n ih=>
  rw[U9];split
  ·exact ih.trans (Qg _ _ _ _)
  ·exact ih
theorem To (h:HH σ F L H)(hb:∀n,n<=H.bT.length->(QN H n).2<=1000000){R:aN}(hR:∀σ',Ext F σ σ'->HH σ' (Grow F σ) L (QN H H.bT.length).1->R (((QN H H.bT.length).2:Nat):Int) σ'):ZD.c (aW L.p) σ R:=by
 refine ZD.o ?_;refine Kw h (cF rfl (aG (h.hd.rS rfl ?_)));have G:=h.j5;have N:=h.s.a2;refine Kh (a:=bN) (bb:=bN) (λ(x z:Int) w=>∃(j:Nat) (B P:Rg),z=(j:Int)/\x=((QN H j).2:Int)/\j<=H.bT.length/\HK F σ B w P L (QN H j).1) (λ_ z _=>H.bT.length-z.toNat) ⟨0,_,_,rfl,rfl,O,HK.start h⟩ ?_;rintro(x:Int) (z:Int) w ⟨j,B,P,rfl,rfl,hj,K⟩;refine cH (λr=>?_) λu=>?_
 ·simp only at r;have y:j<H.bT.length:=by omega
  obtain⟨A,g⟩:∃A,(QN H j).1.bT[j]?=some A:=⟨_,cL (by rw[(Te H j).2.2.2];exact y)⟩;obtain⟨Y,D,_,_⟩:=K.h.ar g;have d:=U9 (H:=H) j;rw[g]at d;simp only at d;have E:=hb (j+1) O;refine K.h.rA D (Wj4 K.h g D λS J M=>?_);have K1:=K.to J M λb _ hb=>hb;have U:(QN H (j+1)).2=(QN H j).2+vj A:=by rw[d]
  have Q:(QN H (j+1)).1 = {(QN H j).1.cB j (eL A (QN H j).1.sp).1 with sp:=(eL A (QN H j).1.sp).2}:=by rw[d]
  rw[←Q]at K1;exact bZ (m:=(QN H (j+1)).2) O O (bZ (m:=j+1) O O ⟨⟨j+1,_,_,rfl,rfl,O,K1⟩,O⟩)
 ·have C:j=H.bT.length:=by simp only at u;omega
  subst C;exact hR w K.e (K.fin h)
def Uy (H:Hw)(n:Nat):Hw:=(List.range n).foldl (λ(H:Hw) k=>match H.bT[k]? with
 | some A=>H.cB k (Hl A)
 | none=>H) H
theorem Ho (n:Nat):Uy H (n+1)=(match (Uy H n).bT[n]? with
 | some A=>(Uy H n).cB n (Hl A)
 | none=>Uy H n):=by
 unfold Uy;rw[zw,m6];rfl
theorem T6 (H:Hw)(n:Nat):Qf (Uy H n) H:=by
 induction n with
 | zero=>exact Qf.refl H
 | succ n ih=>
  rw[Ho];split
  ·exact ih.trans (Qg _ _ _ _)
  ·exact ih
theorem Pw (h:HH σ F L H)(hI:∀n A,n<H.bT.length->(Uy H n).bT[n]?=some A->lG A){R:aP}(hR:∀σ',Ext F σ σ'->HH σ' (Grow F σ) L (Uy H H.bT.length)->R σ'):ZE.c (aW L.p) σ R:=by
 refine ZE.o ?_;refine Kw h (cF rfl (aG (h.hd.rS rfl ?_)));have X:=h.j5;have Q:=h.s.a2;refine ZP (a:=bN) (λ(z:Int) w=>∃(j:Nat) (B P:Rg),z=(j:Int)/\j<=H.bT.length/\HK F σ B w P L (Uy H j)) (λz _=>H.bT.length-z.toNat) ⟨0,_,_,rfl,O,HK.start h⟩ ?_;rintro(z:Int) w ⟨j,B,P,rfl,hj,K⟩;refine cH (λy=>?_) λD=>?_
 ·simp only at y;have r:j<H.bT.length:=by omega
  obtain⟨A,x⟩:∃A,(Uy H j).bT[j]?=some A:=⟨_,cL (by rw[(T6 H j).2.2.2];exact r)⟩;obtain⟨Y,E,_,_⟩:=K.h.ar x;have d:=Ho (H:=H) j;rw[x]at d;simp only at d;refine K.h.rA E ?_;obtain⟨G,Z,M,u⟩:=K.h.ma x E;have g:=hI j A r x;refine M7 M g λS N J=>?_;obtain⟨U,V⟩:=u S (Hl A) (II _ A g).1 N J;have K1:=K.to U V λb _ W=>W;rw[←d]at K1;exact bZ (m:=j+1) O O ⟨⟨j+1,_,_,rfl,O,K1⟩,O⟩
 ·have C:j=H.bT.length:=by simp only at D;omega
  subst C;exact hR w K.e (K.fin h)
def QK (H:Hw)(want:Int)(n:Nat):Hw×Nat:=(List.range n).foldl (λ(p:Hw×Nat) k=>if want<=(p.2:Int)then p else match p.1.bT[k]? with
 | some A=>({p.1.cB k (dU A p.1.sp (want-p.2)).1 with sp:=(dU A p.1.sp (want-p.2)).2},p.2+kH A (want-p.2))
 | none=>p) (H,0)
theorem UN (want:Int)(n:Nat):QK H want (n+1)=(if want<=((QK H want n).2:Int)then QK H want n else match (QK H want n).1.bT[n]? with
 | some A=>({(QK H want n).1.cB n (dU A (QK H want n).1.sp (want-(QK H want n).2)).1 with sp:=(dU A (QK H want n).1.sp (want-(QK H want n).2)).2},(QK H want n).2+kH A (want-(QK H want n).2))
 | none=>QK H want n):=by
 unfold QK;rw[zw,m6];rfl
theorem L8 {want:Int}{j:Nat}(h:want<=((QK H want j).2:Int)):∀n,j<=n->QK H want n=QK H want j
 | 0,hn=>by rw[show j=0 by omega]
 | n+1,hn=>by
  by_cases e:j=n+1
  ·rw[e]
  ·have ih:=L8 h n O;rw[UN,ih,zB h]
theorem OM (H:Hw)(want:Int)(n:Nat):Qf (QK H want n).1 H:=by
 induction n with
 | zero=>exact Qf.refl H
 | succ n ih=>
  rw[UN];split
  ·exact ih
  ·split
   ·exact ih.trans (Qg _ _ _ _)
   ·exact ih
theorem WeH (h:HH σ F L H)(want:Int)(hw9:want<=9223372036854775807)(h12:∀n A,n<H.bT.length->(QK H want n).1.bT[n]?=some A->(VG (YO A).st).length<=12)(hb:∀n,n<=H.bT.length->(QK H want n).2<=1000000){R:Int->Int->Hp->Prop}
 (h1:want<0->R 0 1 σ) (hR:0<=want->∀σ',Ext F σ σ'->HH σ' (Grow F σ) L (QK H want H.bT.length).1->R (((QK H want H.bT.length).2:Nat):Int) 0 σ'):YD.c (aW L.p) want σ R:=by
 refine YD.o ?_;refine Kw h (cF rfl (cH (λG=>h1 G) λG=>aG (h.hd.rS rfl ?_)));have hR:=hR O;have M:=h.j5;have Q:=h.s.a2;refine Kh (a:=bN) (bb:=bN) (λ(x z:Int) w=>∃(j:Nat) (B P:Rg),z=(j:Int)/\x=((QK H want j).2:Int)/\j<=H.bT.length/\HK F σ B w P L (QK H want j).1) (λ_ z _=>H.bT.length-z.toNat) ⟨0,_,_,rfl,rfl,O,HK.start h⟩ ?_;rintro(x:Int) (z:Int) w ⟨j,B,P,rfl,rfl,hj,K⟩;refine cH (λu=>?_) λy=>?_
 ·simp only at u;have g:j<H.bT.length:=by omega
  obtain⟨A,r⟩:∃A,(QK H want j).1.bT[j]?=some A:=⟨_,cL (by rw[(OM H want j).2.2.2];exact g)⟩;obtain⟨Y,E,_,_⟩:=K.h.ar r;have U:=hb j hj;have J:=hb (j+1) O;refine K.h.rA E (cH (λC=>?_) λC=>?_)
  ·rw[L8 O H.bT.length hj]at hR;exact hR w K.e (K.fin h)
  ·have d:=UN (H:=H) want j;rw[zA O,r]at d;simp only at d;refine ar O O (Pt K.h r E _ (h12 j A g r) λV N h1=>?_);have K1:=K.to N h1 λb _ hb=>hb;have W:(QK H want (j+1)).2=(QK H want j).2+kH A (want-(QK H want j).2):=by rw[d]
   have S:(QK H want (j+1)).1 = {(QK H want j).1.cB j (dU A (QK H want j).1.sp (want-(QK H want j).2)).1 with sp:=(dU A (QK H want j).1.sp (want-(QK H want j).2)).2}:=by rw[d]
   rw[←S]at K1;exact bZ (m:=(QK H want (j+1)).2) O O (bZ (m:=j+1) O O ⟨⟨j+1,_,_,rfl,rfl,O,K1⟩,O⟩)
 ·have D:j=H.bT.length:=by simp only at y;omega
  subst D;exact hR w K.e (K.fin h)
end Go.Ar
namespace Go.Ar
variable {A:AR}
theorem WgN (h:GA A)(hn:A.n<=208)(hlow:∀p,p<16->A.f p=0):(VG (YO A).st).length<=12:=by
 obtain⟨o,_,_⟩:=Uu h;have a:(YO A).st.length=A.n:=by rw[o.ga.pg.len,o.kp.n]
 have g:∀p,p<16->(YO A).f p=0:=λp d=>(o.kp.z p).2 (hlow p d);have b:=h.pg.n1;unfold VG;rw[a];have e:List.range (A.n/16)=0::(List.range (A.n/16-1)).map Nat.succ:=by
  rw[←AB];congr 1;omega
 rw[e,ri];have i:gB (YO A).st (16*0) (16*0+16) 2=0:=(HQ O (by rw[a];omega)).2 λp r j m=>by
  have:=g p O;unfold AR.f at this;omega
 rw[i];have:¬(decide (0<0)=true):=by simp
 rw[zA this];refine zI (na _ _) ?_;rw[za,oW];omega
def rO (tb:List bX)(n room m:Nat):Wd:=⟨tb,Vy n,List.replicate m (fG n room tb),[]⟩
theorem OV {n room:Nat}{tb:List bX}(h1:32<=n)(h2:n<=1024)(h3:n%16=0)(h6:tb.length<=40)(h7:∀c∈tb,c.ok):GA (fG n room tb)/\∀p,(fG n room tb).f p=0:=by
 have g:∀p,(fG n room tb).f p=0:=λp=>by
  show(List.replicate n 0).getD p 0=0;rw[zN,nB];split<;>rfl
 have a:∀{k:Nat} {i:List cI},(List.replicate tb.length ([]:List cI))[k]?=some i->i=[]:=λh=>by
  rw[nB]at h;split at h<;>simp at h;exact h
 have b:∀{k:Nat} {t:fU},(List.replicate tb.length (⟨0,[]⟩:fU))[k]?=some t->t.bs=[]:=λh=>by
  rw[nB]at h;split at h<;>simp at h;rw[←h]
 refine⟨⟨⟨by simp[fG],h1,h2,h3,λp=>by rw[g];omega,λp=>by rw[g];simp[fG],λp=>by rw[g];simp[fG,Go.Bu.iN],λp=>by rw[g,g]⟩,h6,by simp[fG],by simp[fG],λk c i d=>?_,λk c i d s m=>?_,λk c i d p=>?_,λp=>?_,λp=>.inr (vM _),by simp[fG],by simp[fG],λk t j=>?_,λk c i t d j=>?_,λk c t d j=>?_⟩,g⟩
 ·have e:=a d.2;subst e;exact⟨h7 c (zE d.1),by simp,by simp⟩
 ·have e:=a d.2;subst e;simp at m
 ·have e:=a d.2;subst e;constructor
  ·intro h;cases h
  ·rintro⟨s,m,_⟩;simp at m
 ·constructor
  ·intro h;cases h
  ·rintro⟨r,hr,_⟩;simp[fG]at hr
 ·have:=b j;rw[this];exact rz
 ·have:=b j;rw[this];simp
 ·have:=b j;rw[this];simp
theorem PZ {tb:List bX}{n room m:Nat}(h1:32<=n)(h2:n<=1024)(h3:n%16=0)(h6:tb.length<=40)(h7:∀c∈tb,c.ok):WI (rO tb n room m):=by
 obtain⟨u,d⟩:=OV (room:=room) h1 h2 h3 h6 h7;have get:∀{k:Nat} {A:AR},(rO tb n room m).bT[k]?=some A->A=fG n room tb:=λ{k A} h=>by
  have h:(List.replicate m (fG n room tb))[k]?=some A:=h;rw[nB]at h;split at h<;>simp at h;exact h.symm
 have b:∀p,gf (Vy n).st p=0:=λp=>by
  show(List.replicate n 0).getD p 0=0;rw[zN,nB];split<;>rfl
 refine⟨λk A h=>by rw[get h];exact u,λk A h=>?_,λk A h=>by rw[get h];rfl,λk A h p a=>by rw[get h];exact d p,λp a=>(a (b p)).elim,λp k l A B z F h1 h2=>?_,rz,λp a=>by simp[rO]at a,λk A h j y x=>?_,λk A h r w=>?_⟩
 ·rw[get h];exact⟨by simp[rO,Vy,fG],λp a=>(a (d p)).elim,λp a=>by rw[d p]at a;omega,λp=>by show gf (Vy n).st p<=2;rw[b];omega⟩
 ·rw[get z]at h1;exact(h1 (d p)).elim
 ·rw[get h]at x;obtain⟨c,E,g,D⟩:=x;have e:E=[]:=by
   have h2:=g.2;simp only[fG]at h2;rw[nB]at h2;split at h2<;>simp at h2;exact h2
  subst e;obtain⟨G,s,i,C,_⟩:=(VT (u.cC _ _ _ g)).1 D;simp at C
 ·rw[get h]at w;simp[fG]at w
end Go.Ar
namespace Go.Ar
open Go.Vc (bV dE cT)
variable {H H':Hw}{held:List Pc}{s0:Sp}{t k j:Nat}{g:Th}{A:AR}{c:bX}
theorem Sr {tb:List bX}{cf:Cf}(h1:32<=cf.aF)(h2:cf.aF<=1024)(h3:cf.aF%16=0)(h4:1<=cf.iv)(h6:tb.length<=40)(h7:∀c∈tb,c.ok):HI (Ur tb cf) [] (Vy cf.aF):=by
 have u:=PZ (tb:=tb) (n:=cf.aF) (room:=cf.room) (m:=cf.iv) h1 h2 h3 h6 h7;have i:∀g∈(Ur tb cf).bS,g=⟨List.replicate tb.length iD,[],none⟩:=λg d=>(AV.1 d).2;have r:∀k,(List.replicate tb.length iD).getD k iD=iD:=λk=>by
  rw[zN,nB];split<;>rfl
 refine⟨u,gM.refl _,λk x=>?_,rz,λe z=>by simp[Ur]at z,λg d s a j=>?_,λg d=>?_,h7,?_,?_⟩
 ·have y:∀(n:Nat) (f:Th->Nat) (g:Th),f g=0->((List.replicate n g).map f).sum=0:=λn f g h=>by
   rw[uV,h]
   induction n with
   | zero=>rfl
   | succ n ih=>rw[xF,zu,ih]
  have w:gZ ⟨List.replicate tb.length iD,[],none⟩ k x=0:=by
   unfold gZ mD;split
   ·simp only[r];rfl
   ·rfl
  have:qT (Ur tb cf) k x=0:=by
   unfold qT;show m5 [] k x+((List.replicate cf.threads (⟨List.replicate tb.length iD,[],none⟩:Th)).map λg=>gZ g k x).sum=0;rw[y _ _ _ w];rfl
  rw[this,QY];rintro⟨p,j,_⟩;simp at j
 ·rw[i g d]at j;cases j
 ·rw[i g d];refine⟨by simp[Ur],λl B=>?_,λb A=>by simp at A,by simp,by unfold iG;rfl⟩;rw[(AV.1 B).2];exact⟨fT.nil,by simp[iD]⟩
 ·show 1<=(List.replicate cf.iv (fG cf.aF cf.room tb)).length;simpa using h4
 ·show(List.replicate cf.aF 0).length=cf.aF;simp
def KL (H H':Hw):Prop:=∀e∈H.live,∀w:Nat,e.1<=((8*w:Nat):Int)->((8*w:Nat):Int)<e.1+e.2.2.1->H'.sp.wd w=H.sp.wd w
theorem HI.AQ (h:HI H held s0):WI ⟨H.tb,s0,H.bT,held⟩:=h.wi
theorem HI.mapped (h:HI H held s0){p:Pc}(hp:p∈held){x:Nat}(h1:p.addr<=x)(h2:x<p.addr+p.size):gf H.sp.st (x/256)≠0:=by
 obtain⟨A,a,_⟩:=h.wi.hf p hp;have b:=h.wi.nD hp a h1 h2;have:=(h.wi.ow _ A a).own (x/256) O;intro hz;exact this ((h.k7.z _).1 hz)
theorem HI.kl (h:HI H held s0)(k:KS H.sp H'.sp):KL H H':=λe b w g j=>by
 obtain⟨_,p,d,_,_,m,i,_⟩:=h.lv e b;have a:=h.mapped d (x:=8*w) O O;exact(k.k _ a).2 w O
theorem KL.refl (H:Hw):KL H H:=λ_ _ _ _ _=>rfl
theorem KL.trans {H1 H2 H3:Hw}(a:KL H1 H2)(b:KL H2 H3)(hl:∀e∈H1.live,e∈H2.live):KL H1 H3:=λe d w g i=>(b e (hl e d) w g i).trans (a e d w g i)
structure iM (H H':Hw):Prop where
 hi:∃held s0,HI H' held s0
 live:H'.live=H.live
 bS:H'.bS=H.bS
 kp:Qf H' H
 kl:KL H H'
theorem iM.refl (h:HI H held s0):iM H H:=⟨⟨_,_,h⟩,rfl,rfl,Qf.refl _,KL.refl _⟩
theorem iM.trans {H1 H2 H3:Hw}(a:iM H1 H2)(b:iM H2 H3):iM H1 H3:=⟨b.hi,b.live.trans a.live,b.bS.trans a.bS,a.kp.trans b.kp,a.kl.trans b.kl λe d=>by rw[a.live];exact d⟩
theorem HI.n (h:HI H held s0)(hk:H.bT[k]?=some A):A.n=H.cf.aF:=by
 have:=(h.wi.ow k A hk).l;have a:=h.k7.l;have b:=h.sl;simp only at this;omega
theorem HI.lA (h:HI H held s0)(h208:H.cf.aF<=208)(hk:H.bT[k]?=some A):(VG (YO A).st).length<=12:=WgN (h.wi.ga k A hk) (by rw[h.n hk];exact h208) (h.wi.low k A hk)
theorem FE (h:HI H held s0)(hk:H.bT[k]?=some A){B:AR}{s0' sp':Sp}(wi:WI ⟨H.tb,s0',H.bT.set k B,held⟩)(hw:∀w,B.f (w/32)=1->sp'.wd w=H.sp.wd w)(hoth:∀w,A.f (w/32)=0->B.f (w/32)=0->sp'.wd w=H.sp.wd w):KL H {H.cB k B with sp:=sp'}:=by
 intro e he w h1 h2;obtain⟨_,p,d,_,_,s,r,_⟩:=h.lv e he;obtain⟨C,j,_⟩:=h.wi.hf p d;obtain⟨D,a,_⟩:=wi.hf p d;have m:=h.wi.nD d j (x:=8*w) O O;have i:=wi.nD d a (x:=8*w) O O;rw[show 8*w/256=w/32 by omega]at m i;have b:=(cS.1 hk).1;by_cases hpk:p.k=k
 ·have g:(H.bT.set k B)[k]?=some B:=zM b;have a:(H.bT.set k B)[p.k]?=some D:=a;rw[hpk,g]at a;cases a;exact hw w i
 ·refine hoth w ?_ ?_
  ·apply Classical.byContradiction;intro hn;exact hpk (h.wi.one (w/32) p.k k C A j hk O hn)
  ·have g:(H.bT.set k B)[k]?=some B:=zM b;apply Classical.byContradiction;intro hn;exact hpk (wi.one (w/32) p.k k D B a g O hn)
theorem NC (h:HI H held s0)(hk:H.bT[k]?=some A)(want:Int):iM H {H.cB k (dU A H.sp want).1 with sp:=(dU A H.sp want).2}:=by
 have ga:=h.wi.ga k A hk;obtain⟨j,g,r⟩:=h.k7.dU A want;obtain⟨s,u,B,C⟩:=WmW ga (h.wi.ow k A hk) want;have wi:=h.wi.jz hk s u C B;rw[show(Wd.mk H.tb s0 H.bT held).sp=s0 from rfl,←j]at wi;have y:=h.tJ wi g r (by simp[Wd.put]) (λ_ _=>Iff.rfl) (λp x _=>x);have key:KL H {H.cB k (dU A H.sp want).1 with sp:=(dU A H.sp want).2}:=by
  by_cases h0:want<0
  ·have:dU A H.sp want=(A,H.sp):=by unfold dU;rw[zB h0]
   rw[this];exact λ_ _ _ _ _=>rfl
  ·obtain⟨z,_⟩:=Ll ga (h.wi.ow k A hk) (want:=want) O;have b:=Uu ga;have a:∀w,¬gH (Ud A want) (w/32)->(dU A H.sp want).2.wd w=H.sp.wd w:=λw d=>by
    rw[g.w,z.wd w d,h.k7.w]
   refine FE h hk wi (λw d=>a w λe=>?_) λw m _=>a w λe=>?_
   ·have:=(z.i _ e).2.1;rw[j]at d;simp only at this;omega
   ·have:=(z.i _ e).1;have:=(b.1.kp.z (w/32)).2 m;omega
 exact⟨⟨_,_,y⟩,rfl,rfl,Qg _ _ _ _,key⟩
theorem NR (h:HI H held s0)(hk:H.bT[k]?=some A):iM H {H.cB k (eL A H.sp).1 with sp:=(eL A H.sp).2}:=by
 have ga:=h.wi.ga k A hk;obtain⟨g,e,i⟩:=h.k7.eL A;have z:=TX ga (h.wi.ow k A hk);have wi:=h.wi.jz hk z.st z.runs (λj y=>by unfold fA Cl;rw[z.st.tb,z.cC]) z.cE;rw[show(Wd.mk H.tb s0 H.bT held).sp=s0 from rfl,←g]at wi;have r:=h.tJ wi e i (by simp[Wd.put]) (λ_ _=>Iff.rfl) (λp m _=>m);have a:∀w,w/32/16∉Ks A.st 0->(eL A H.sp).2.wd w=H.sp.wd w:=λw b=>by
  rw[e.w,z.wd w b,h.k7.w]
 have key:KL H {H.cB k (eL A H.sp).1 with sp:=(eL A H.sp).2}:=by
  refine FE h hk wi (λw b=>a w λd=>?_) λw s _=>a w λd=>?_
  ·rw[g,z.f,zB d]at b;omega
  ·have:=((Ik ga).1 d).2 (w/32) rfl;omega
 exact⟨⟨_,_,r⟩,rfl,rfl,Qg _ _ _ _,key⟩
theorem Sq (h:HI H held s0)(hk:H.bT[k]?=some A):iM H (H.cB k (Hl A)):=by
 have wi:=h.wi.tick hk;have b:=h.tJ (sp':=H.sp) wi h.k7 rfl (by simp[Wd.put]) (Wos _) (λp a _=>(zH.1 a).1);exact⟨⟨_,_,b⟩,rfl,rfl,Qg _ _ _ H.sp,λ_ _ _ _ _=>rfl⟩
theorem P4 (h:HI H held s0)(n:Nat):iM H (Uy H n):=by
 induction n with
 | zero=>exact iM.refl h
 | succ n ih=>
  rw[Ho];split
  ·rename_i A hA;obtain⟨a,d,b⟩:=ih.hi;exact ih.trans (Sq b hA)
  ·exact ih
theorem Υ (st:List Nat)(k:Nat):(Ks st k).length<=st.length/16:=by
 unfold Ks;exact zI (na _ _) aA
theorem Ti (h:HI H held s0)(n:Nat):iM H (QN H n).1/\(QN H n).2<=n*64:=by
 induction n with
 | zero=>exact⟨iM.refl h,zC _⟩
 | succ n a=>
  obtain⟨a,j⟩:=a;rw[U9];split
  ·rename_i A hA;obtain⟨b,e,d⟩:=a.hi;refine⟨a.trans (NR d hA),?_⟩;have ga:=d.wi.ga n A hA;have g:=Υ A.st 0;have i:=ga.pg.len;have m:=ga.pg.n2;simp only[vj];omega
  ·exact⟨a,O⟩
theorem Cy (st:List Nat)(e:Nat):∀(f p:Nat),(Q5 st e f p).length<=f/\∀r∈Q5 st e f p,r.2<=e-p
 | 0,p=>⟨by simp[Q5],by simp[Q5]⟩
 | f+1,p=>by
  unfold Q5;split
  ·exact⟨by simp,by simp⟩
  ·split
   ·obtain⟨h1,h2⟩:=Cy st e f (p+1);exact⟨O,λr a=>by have:=h2 r a;omega⟩
   ·obtain⟨h1,h2⟩:=Cy st e f (p+gA st p (e-p)+1);refine⟨by simp;omega,λr a=>?_⟩;rcases zT.1 a with rfl|a
    ·have:gA st p (e-p)<=e-p:=by
      unfold gA;refine zI (List.Sublist.length_le (List.takeWhile_sublist _)) ?_;rw[zO];omega
     exact this
    ·have:=h2 r a;omega
theorem jg {α:Type}(f:α->Nat)(c:Nat):∀l:List α,(∀x∈l,f x<=c)->(l.map f).sum<=l.length*c
 | [],_=>by simp
 | x::l,h=>by
  have h1:=jg f c l λy a=>h y (by simp[a]);have b:=h x aA;rw[zK,zu,zQ,zl];omega
theorem WnC (h:GA A)(want:Int):kH A want<=17408:=by
 unfold kH;split
 ·omega
 ·have g:=(Uu h).1;have w:(YO A).st.length<=1024:=by rw[g.ga.pg.len];exact g.ga.pg.n2
  unfold Ud HE;have a:=Ey want 0 ((eP (YO A).st).flatMap (KU (YO A).st));have b:∀x,(KU (YO A).st x).length<=17/\∀r∈KU (YO A).st x,r.2<=16:=λx=>by
   have:=Cy (YO A).st (16*x+16) 17 (16*x);exact⟨this.1,λr d=>by have:=this.2 r d;omega⟩
  have i:((eP (YO A).st).flatMap (KU (YO A).st)).length<=64*17:=by
   rw[List.length_flatMap];refine zI (jg (λx=>(KU (YO A).st x).length) 17 _ λx _=>(b x).1) ?_;have u:=(Lc (YO A).st).length_eq;have m:=na (λh=>decide (0<gB (YO A).st (16*h) (16*h+16) 2)) (List.range ((YO A).st.length/16));rw[oW]at m;have:(eP (YO A).st).length<=64:=by omega
   omega
  have e:∀r∈(eP (YO A).st).flatMap (KU (YO A).st),r.2<=16:=λr d=>by
   obtain⟨x,_,j⟩:=rJ.1 d;exact(b x).2 r j
  have s:=jg (λr:Nat×Nat=>r.2) 16 (gP want 0 ((eP (YO A).st).flatMap (KU (YO A).st))) λr d=>e r (a.subset d);have p:=a.length_le;omega
theorem TO (h:HI H held s0)(want:Int)(n:Nat):iM H (QK H want n).1/\(QK H want n).2<=n*17408:=by
 induction n with
 | zero=>exact⟨iM.refl h,zC _⟩
 | succ n a=>
  obtain⟨a,e⟩:=a;rw[UN];split
  ·exact⟨a,zI e (lS _ (Nat.le_succ n))⟩
  ·split
   ·rename_i A hA;obtain⟨b,g,d⟩:=a.hi;refine⟨a.trans (NC d hA _),?_⟩;have:=WnC (d.wi.ga n A hA) (want-((QK H want n).2:Int));simp only;omega
   ·exact⟨a,zI e (lS _ (Nat.le_succ n))⟩
theorem WI.wd {W:Wd}(h:WI W)(f:Nat->Int):WI {W with sp:={W.sp with wd:=f}}:=
 ⟨h.ga,λk A hk=>⟨(h.ow k A hk).l,(h.ow k A hk).own,(h.ow k A hk).cl,(h.ow k A hk).le⟩,h.tb,h.low,h.own,h.one,h.hk,h.hf,h.ht,h.hr⟩
theorem T7 {sp:Sp}{x:Int}(h:gX sp x=0):0<=x/\x%8=0/\gf sp.st (x.toNat/256)≠0:=by
 unfold gX at h;split at h
 ·cases h
 ·split at h
  ·cases h
  ·exact⟨O,O,by assumption⟩
theorem Rr (sp:Sp)(x v:Int):(U4 sp x v).st.length=sp.st.length/\(∀p,gf (U4 sp x v).st p=0↔gf sp.st p=0)/\∀w,(U4 sp x v).wd w=if gX sp x=0/\w=x.toNat/8 then v else sp.wd w:=by
 unfold U4;split
 ·rename_i h0;have a:=T7 h0;refine⟨by simp[oB],λp=>?_,λw=>?_⟩
  ·show gf (sp.st.set (x.toNat/8/32) 2) p=0↔_;have b:x.toNat/8/32=x.toNat/256:=by omega
   rw[b];unfold gf at a ⊢;rw[zN]at a ⊢;rw[zN,nq];split
   ·rename_i he;split
    ·rw[←he];simp only[px];exact⟨λh=>O,λh=>(a.2.2 h).elim⟩
    ·rename_i hl;rw[zX O]at a;exact(a.2.2 rfl).elim
   ·exact Iff.rfl
  ·show(if w=x.toNat/8 then v else sp.wd w)=_
   by_cases hw:w=x.toNat/8
   ·rw[zB hw,zB ⟨h0,hw⟩]
   ·rw[zA hw,zA λh=>hw h.2]
 ·exact⟨rfl,λ_=>Iff.rfl,λw=>by rw[zA λh=>by have:=h.1;contradiction]⟩
theorem HI.write (h:HI H held s0)(x v:Int):HI {H with sp:=U4 H.sp x v} held {s0 with wd:=(U4 H.sp x v).wd}:=by
 obtain⟨a,b,_⟩:=Rr H.sp x v;exact⟨h.wi.wd _,⟨a.trans h.k7.l,λp=>(b p).trans (h.k7.z p),rfl⟩,h.cn,h.lk,h.lv,h.gv,h.th,h.ok,h.a1,a.trans h.sl⟩
end Go.Ar
namespace Go.Ar
open Go Go.Vc Go.Proofs
variable {σ u w w':Hp}{F B P Q:Rg}{L:dP}{H H':Hw}{t n:Nat}{g:Th}
end Go.Ar
namespace Go.Proofs
open Go.Vc
set_option maxRecDepth 100000
def WV.h:Hn:=.q .o2 (.q (.q (.cV (.seq [.op,.op,.op,.dA false 2 [.op,.op]])) .aJ) (.q .o1 (.q .o1 (.q (.k (.loop [(4,.one .s),(5,.I)] (.q (.q .o2 (.c .l .l)) (.k (.q .o7 .o6))))) (.q .o6 (.q .o1 (.q (.q .o1 (.k (.loop [(6,.one .s),(7,.I)] (.q (.q .o4 (.c .l .l)) (.q (.k (.q (.cV (.ic true [] [(70,.one .b)] (.tk [0,1,2,3,4,5] (.split 43 (.tk [6,7,8,9,10,11,12,13,14,15,16,17,18,19,20,21,22,23,24,25,26,27,28,29,30,31,32] (.done)) (.tk [6,7,8,9,10,11,12,13,14,15,16,17,18,19] (.split 57 (.tk [20,21,22,23,24,25,26,27,28,29,30,31,32] (.done)) (.tk [20,21,22,23,25,26,27,28,29] (.all [(24,.all [(30,.take 31 (.take 32 (.done)))])])))))))) (.c .o8 .l))) .o3))))) (.q .o3 .l))))))))
theorem WV.o {a:Int}{b:Hp}{c:Sl->Int->Hp->Prop}(d:bY (λd e=>If d (c ⟨none,0,0⟩ 1 e) (WR [.s,bN] (λf=>f ⟨none,0,0⟩ 8 e) λg (h:Sl) (i:Int) j=>If (i<512) (Xl.c i a j λk l m n=>aV #[.I k,.I l,.I m] 31 n λo p=>App h 3 24 31 [.I 0,.I 0,.I 0] ⟨some o,1,1⟩ p λq r=>X8.c i a r λs t=>bL (i+s) λu=>g q u t) (Xl.c 512 a j λv w x y=>aV #[.I v,.I w,.I x] 31 y λz aa=>App h 3 24 31 [.I 0,.I 0,.I 0] ⟨some z,1,1⟩ aa λab ac=>WR [.s,bN] (λad=>ad ⟨none,0,0⟩ 0 ac) λae (af:Sl) (ag:Int) ah=>If (ag<((ab.len:Nat):Int)) (Jn [.b] (λ(ai:Bool) aj=>If ai (Ix ab.a ab.len ag 3 λak=>aQ ak 0 aj λal=>aQ ak 1 aj λam=>aQ ak 2 aj λan=>aV #[.I al,.I am,.I an] 31 aj λao ap=>App af 3 24 31 [.I 0,.I 0,.I 0] ⟨some ao,1,1⟩ ap λaq ar=>bL (ag+1) λau=>ae aq au ar) (bL (ag+1) λav=>ae af av aj)) λaw=>dW ah λax=>bL (((ab.len:Nat):Int)-1) λay=>If (ag==ay) (aw true ah) (Ix ab.a ab.len ag 3 λaz=>aS ax az 1 λa0=>bL (ag+1) λa1=>Ix ab.a ab.len a1 3 λa2=>aS ax a2 1 λa3=>If (a0 != a3) (aw true ah) (Ix ab.a ab.len ag 3 λa4=>aS ax a4 0 λa5=>aS ax a4 1 λa6=>aS ax a4 2 λa7=>bL (ag+1) λa8=>Ix ab.a ab.len a8 3 λa9=>aS ax a9 0 λba=>aS ax a9 1 λbb=>aS ax a9 2 λbc=>WS.c a5 a6 a7 ah λbd be=>And (ax be) <|
 WS.c ba bb bc be λbf bg=>And (ax bg) <| aw (bd != bf) bg))) (c af 0 ah)))) λbh=>If (a<2) (bh true b) (bh (decide (a>16)) b)):WV.c a b c:=Wa Tryz.func16 (x:=WV.h) (R0 d)
def WS.h:Hn:=.q .o2 (.q .o1 (.q (.k (.loop [(3,.I)] (.q (.q .o9 (.c .l .l)) (.k .o3)))) .aL))
theorem WS.o {a b c:Int}{d:Hp}{e:aN}(f:aV #[.I a,.I b,.I c] 31 d λf g=>WR [bN] (λh=>h 0 g) λi (j:Int) k=>bL (j+1) λl=>aQ f 0 k λm=>bL (l*m) λn=>aQ f 1 k λo=>bL (o*256) λp=>If (n<=p) (bL (j+1) λq=>i q k) (e j k)):WS.c a b c d e:=Wa Tryz.func18 (x:=WS.h) (R0 f)
def Xl.h:Hn:=.q .o1 (.q .o8 (.q (.q .o1 (.k (.loop [(6,.I)] (.q (.q .o2 (.c .l .l)) (.q (.k (.q (.cV (.seq [.op,.op,.op,.op,.op,.dA true 9 (RI.ops 9)])) (.c .o3 .l))) .o3))))) .aL))
theorem Xl.o {a b:Int}{c:Hp}{d:Int->Int->Int->Hp->Prop}(e:aV #[.I 0,.I 0,.I 0] 31 c λe f=>Nz a<|bL ((512:Int).tdiv a) λg=>aV #[.I 0,.I 0,.I 0] 31 f λh i=>aR h 0 (.I a) i λj=>aR h 1 (.I 4) j λk=>aR h 2 (.I (if 32<(if 2>g then 2 else g)then 32 else(if 2>g then 2 else g))) k λl=>WR [bN] (λm=>m 4 l) λn (o:Int) p=>If (o≥1) (bL (o*256) λq=>bY (λr s=>If r (aR h 1 (.I o) s λt=>bL (o-1) λu=>n u t) (bL (o-1) λv=>n v s)) λw=>If (q≥a) (bL (o*256) λx=>Nz a <| bL (b*(x.tmod a)) λy=>bL (o*256) λz=>w (decide (y<=z)) p) (w false p)) (aQ h 0 p λaa=>aQ h 1 p λab=>aQ h 2 p λac=>aR e 0 (.I aa) p λad=>aR e 1 (.I ab) ad λae=>aR e 2 (.I ac) ae λaf=>aQ e 0 af λag=>aQ e 1 af λah=>aQ e 2 af λai=>d ag ah ai af)):Xl.c a b c d:=Wa Tryz.func47 (x:=Xl.h) (R0 e)
def X8.h:Hn:=.q .o1 (.q .o1 (.q (.k (.loop [(5,.I)] (.q (.q .o6 (.c .l .l)) (.k .o3)))) .aL))
theorem X8.o {a b:Int}{c:Hp}{d:aN}(e:WR [bN] (λe=>e 8 c) λf (g:Int) h=>bL (2*g) λi=>Nz b<|bL (a.tdiv b) λj=>If (i<=j) (bL (2*g) λk=>f k h) (d g h)):X8.c a b c d:=Wa Tryz.func48 (x:=X8.h) (R0 e)
end Go.Proofs
namespace Go.Ar
open Go Go.Vc Go.Proofs
variable {σ w:Hp}
abbrev T3:=Int×Int×Int
def v3 (x:T3):List Value:=[.int .i64 x.1,.int .i64 x.2.1,.int .i64 x.2.2]
def kD (l:List T3):List Value:=l.flatMap v3
theorem UB (l:List T3):(kD l).length=l.length*3:=by
 induction l with
 | nil=>rfl
 | cons x l ih=>simp only[kD,mM,zJ,v3,zQ,lU]at *;omega
theorem Bv (l:List T3)(x:T3):kD (l++[x])=kD l++v3 x:=by simp[kD]
theorem Ga:∀{l:List T3} {i:Nat} {x:T3},l[i]?=some x->∀{d:Nat},d<3->(kD l)[i*3+d]?=(v3 x)[d]?
 | [],_,_,h,_,_=>by simp at h
 | y::l,0,x,h,d,hd=>by
  simp at h;subst h;have e:kD (y::l)=v3 y++kD l:=rfl;rw[e,zg (by simp[v3];omega)];congr 1;omega
 | y::l,i+1,x,h,d,hd=>by
  have e:kD (y::l)=v3 y++kD l:=rfl;have a:(v3 y).length=3:=rfl;rw[e,zi O,a,show(i+1)*3+d-3=i*3+d by omega];exact Ga (by simpa using h) hd
theorem F8 {Q:Rg}{s:Sl}{l:List T3}(h:Own Q σ s 3 (kD l)):gK σ s l:=by
 have u:=h.1;rw[UB]at u;refine⟨O,λi x y z e=>?_⟩;obtain⟨b,d,g⟩:=h.cell (j:=i*3+0) (v:=.int .i64 x) ((Ga e O).trans rfl);obtain⟨r,a,m⟩:=h.cell (j:=i*3+1) (v:=.int .i64 y) ((Ga e O).trans rfl);rw[d]at a;cases a;obtain⟨r,a,p⟩:=h.cell (j:=i*3+2) (v:=.int .i64 z) ((Ga e O).trans rfl);rw[d]at a;cases a;refine⟨b,0,d,Q2 g,?_,?_,?_⟩
 ·rw[show 0+i*3=i*3+0 by omega];exact g
 ·rw[show 0+i*3+1=i*3+1 by omega];exact m
 ·rw[show 0+i*3+2=i*3+2 by omega];exact p
def uT (s w:Int)(n:Nat):Int:=([4,3,2,1].take n).foldl (λ(r p:Int)=>if s<=p*256/\w*((p*256)%s)<=p*256 then p else r) 4
def AF (s:Int):Int:=min 32 (max 2 (512/s))
def lO (s w:Int):T3:=(s,uT s w 4,AF s)
def xC:Nat->Int->Int->Int
 | 0,d,_=>d
 | n+1,d,q=>if 2*d<=q then xC n (2*d) q else d
def xI (s w:Int):Int:=xC 8 8 (s/w)
def nr (x:T3):Int:=x.2.1*256/x.1
theorem RM (s w:Int)(n:Nat):1<=uT s w n/\uT s w n<=4:=by
 have key:∀(l:List Int) (r:Int),(∀p∈l,1<=p/\p<=4)->1<=r/\r<=4->1<=l.foldl (λ(r p:Int)=>if s<=p*256/\w*((p*256)%s)<=p*256 then p else r) r/\l.foldl (λ(r p:Int)=>if s<=p*256/\w*((p*256)%s)<=p*256 then p else r) r<=4:=by
  intro l
  induction l with
  | nil=>intro r _ h;exact h
  | cons p l ih=>
   intro r hl hr;rw[lC];refine ih _ (λq b=>hl q (lz _ b)) ?_;split
   ·exact hl p lB
   ·exact hr
 refine key _ _ (λp a=>?_) O;have:=m7 a;simp at this;omega
theorem Jz (s w:Int)(h1:8<=s)(h2:s<=512)(hw1:2<=w)(hw2:w<=16){R:Int->Int->Int->Hp->Prop}(hR:∀σ',bO σ σ'->R (lO s w).1 (lO s w).2.1 (lO s w).2.2 σ'):Xl.c s w σ R:=by
 refine Xl.o ?_;have ab:1<=512/s/\512/s<=64:=⟨by rw[Int.le_ediv_iff_mul_le O];omega,Int.ediv_le_of_le_mul O O⟩;refine nw (cs:=[.int .i64 0,.int .i64 0,.int .i64 0]) λv hz e Q=>nz O (ar (by rw[Xq O];omega) (by rw[Xq O];omega) ?_);rw[Xq O];refine nw (cs:=[.int .i64 0,.int .i64 0,.int .i64 0]) λv1 Y F y=>y.s1 aA λv2 o2 E=>E.s1 aA λX o3 m=>m.s1 aA λv4 o4 G=>?_;have d:σ.size≠v.size:=by omega
 have A:=Wp o4 (Wp o3 (Wp o2 (F.cA Q id) d) d) d;have S:bO σ v4:=((((e.trans F).only o2 (.inr O)).only o3 (.inr O)).only o4 (.inr O));have j:(if 32<(if 2>512/s then 2 else 512/s)then 32 else(if 2>512/s then 2 else 512/s))=AF s:=by unfold AF;omega
 rw[j]at G;refine ZP (a:=bN) (λ(z:Int) u=>∃n:Nat,n<=4/\z=4-(n:Int)/\bO σ u/\bW u σ.size [.int .i64 0,.int .i64 0,.int .i64 0]/\bW u v.size [.int .i64 s,.int .i64 (uT s w n),.int .i64 (AF s)]) (λz _=>z.toNat) ⟨0,O,rfl,S,A,G⟩ ?_;rintro(z:Int) u ⟨n,hn,rfl,eu,hu,bu⟩;refine cH (λN=>?_) λM=>?_
 ·have W:n<4:=by omega
  have b:uT s w (n+1)=if s<=(4-(n:Int))*256/\w*(((4-(n:Int))*256)%s)<=(4-(n:Int))*256 then 4-(n:Int)else uT s w n:=by
   have L:([4,3,2,1]:List Int)[n]?=some (4-(n:Int)):=by
    rcases(show n=0\/n=1\/n=2\/n=3 by omega)with rfl|rfl|rfl|rfl<;>rfl
   unfold uT;rw[zf,L,m6];rfl
  refine ar O O ?_;refine V6 (λr K=>K=u/\r=decide (s<=(4-(n:Int))*256/\w*(((4-(n:Int))*256)%s)<=(4-(n:Int))*256)) (λr K ⟨D,x⟩=>?_) λJ H=>?_
  ·subst D;by_cases hc:s<=(4-(n:Int))*256/\w*(((4-(n:Int))*256)%s)<=(4-(n:Int))*256
   ·rw[zU hc]at x;rw[zB hc]at b;refine cJ x (bu.s1 aA λU o1 B=>ar O O ⟨⟨n+1,O,O,eu.only o1 (.inr O),Wp o1 hu d,by rw[b];exact B⟩,O⟩)
   ·rw[zb hc]at x;rw[zA hc]at b;exact cF x (ar O O ⟨⟨n+1,O,O,eu,hu,by rw[b];exact bu⟩,O⟩)
  ·have g:=Int.emod_nonneg ((4-(n:Int))*256) (show s≠0 by omega);have V:=Int.emod_lt_of_pos ((4-(n:Int))*256) (show 0<s by omega);have aa:w*(((4-(n:Int))*256)%s)<=16*512:=Int.mul_le_mul hw2 O g O;have P:0<=w*(((4-(n:Int))*256)%s):=Int.mul_nonneg O g;refine cH (λh1=>ar O O (nz O ?_)) λh1=>H _ _ ⟨rfl,(zb λp=>h1 p.1).symm⟩;rw[Q4 O];refine ar O O (ar O O (H _ _ ⟨rfl,?_⟩));rw[decide_eq_decide];exact⟨λp=>⟨h1,p⟩,λp=>p.2⟩
 ·have C:n=4:=by omega
  subst C;refine bu.rI rfl (bu.rI rfl (bu.rI rfl (hu.s1 aA λU o1 B=>B.s1 aA λu2 o2 E=>E.s1 aA λZ o3 m=>m.rI rfl (m.rI rfl (m.rI rfl (hR Z ?_))))));exact((eu.only o1 (.inr O)).only o2 (.inr O)).only o3 (.inr O)
theorem Wkz (s w:Int)(h1:8<=s)(h2:s<=512)(hw1:2<=w){R:aN}(hR:8<=xI s w->xI s w<=256->R (xI s w) σ):X8.c s w σ R:=by
 refine X8.o ?_;have g:0<=s/w/\s/w<=256:=⟨Int.ediv_nonneg O O,by
  have:s/w<=s/2:=by
   apply Int.le_ediv_of_mul_le O;have:=Int.ediv_mul_le s (show w≠0 by omega);have j:s/w*2<=s/w*w:=Int.mul_le_mul_of_nonneg_left hw1 (Int.ediv_nonneg O O);omega
  omega⟩
 refine ZP (a:=bN) (λ(d:Int) u=>u=σ/\∃n:Nat,xC n d (s/w)=xI s w/\8<=d/\d<=256/\512<=d*2^n) (λd _=>1000-d.toNat) ⟨rfl,8,rfl,O,O,by decide⟩ ?_;rintro(d:Int) u ⟨rfl,n,hst,hd1,hd2,hdn⟩;refine ar O O (nz O (ar (by rw[Xq O];omega) (by rw[Xq O];omega) ?_));rw[Xq O];cases n with
 | zero=>simp at hdn;omega
 | succ n=>
  refine cH (λb=>ar O O ⟨⟨rfl,n,?_,O,O,?_⟩,O⟩) λe=>?_
  ·rw[xC,zB b]at hst;exact hst
  ·rw[Int.pow_succ]at hdn;have:2*d*2^n=d*(2^n*2):=by rw[Int.mul_comm 2 d,Int.mul_assoc,Int.mul_comm 2 (2^n)]
   omega
  ·rw[xC,zA e]at hst;rw[←hst]at hR;exact hR hd1 hd2
theorem Lp (x:T3)(h1:8<=x.1)(h2:x.1<=512)(h3:1<=x.2.1)(h4:x.2.1<=4){R:aN}(hR:∀σ',bO σ σ'->R (nr x) σ'):WS.c x.1 x.2.1 x.2.2 σ R:=by
 refine WS.o ?_;refine nw (cs:=[.int .i64 x.1,.int .i64 x.2.1,.int .i64 x.2.2]) λv r e m=>?_;refine ZP (a:=bN) (λ(n:Int) u=>bO σ u/\bW u σ.size [.int .i64 x.1,.int .i64 x.2.1,.int .i64 x.2.2]/\0<=n/\n<=128/\n*x.1<=x.2.1*256) (λn _=>1000-n.toNat) ⟨e,m,O,O,O⟩ ?_;rintro(n:Int) u ⟨eu,bu,hn0,hn1,hn⟩;have w:(n+1)*x.1<=129*512:=Int.mul_le_mul O h2 O O;have g:0<=(n+1)*x.1:=Int.mul_nonneg O O;refine ar O O (bu.rI rfl (ar O O (bu.rI rfl (ar O O ?_))));refine cH (λb=>ar O O ⟨⟨eu,bu,O,?_,b⟩,O⟩) λj=>?_
 ·have:(n+1)*8<=(n+1)*x.1:=Int.mul_le_mul_of_nonneg_left h1 O;omega
 ·have:nr x=n:=by
   unfold nr;have p:n<=x.2.1*256/x.1:=(Int.le_ediv_iff_mul_le O).2 hn;have s:x.2.1*256/x.1<n+1:=(Int.ediv_lt_iff_lt_mul O).2 O;omega
  have d:=hR u eu;rw[this]at d;exact d
def iE:Nat->Int->Int->List T3
 | 0,_,_=>[]
 | n+1,s,w=>if s<512 then lO s w::iE n (s+xI s w) w else[]
def allM (w:Int):List T3:=iE 64 8 w++[lO 512 w]
def pC (l:List T3)(i:Nat):Bool:=i==l.length-1||(match l[i]?,l[i+1]? with
 | some x,some y=>x.2.1 != y.2.1||nr x != nr y
 | _,_=>false)
def mS (l:List T3)(n:Nat):List T3:=(List.range n).filterMap λi=>if pC l i then l[i]? else none
def qR (w:Int):List T3:=mS (allM w) (allM w).length
def s8 (x:T3):Prop:=8<=x.1/\x.1<=512/\1<=x.2.1/\x.2.1<=4
theorem Ip (s w:Int)(h1:8<=s)(h2:s<=512):s8 (lO s w):=⟨h1,h2,RM s w 4⟩
theorem uP {Q:Rg}{s:Sl}{l:List T3}{e1 e2:Nat}(ho:Own Q σ s 3 (kD l))(hQ:∀b,σ.size<=b->Q b)(hl:l.length<=1000)(x:T3){K:Sl->Hp->Prop}(hK:∀s' σ',Ext Q σ σ'->Own Q σ' s' 3 (kD (l++[x]))->K s' σ') :
 Nw (.cells #[.int .i64 x.1,.int .i64 x.2.1,.int .i64 x.2.2] e1 (0,0)) σ λn20 v3=>App s 3 24 e2 [.int .i64 0,.int .i64 0,.int .i64 0] ⟨some n20,1,1⟩ v3 K:=by
 have d:s.len=l.length:=by have:=ho.1;rw[UB]at this;omega
 refine nw (cs:=v3 x) λv p e a=>?_;refine(ho.bK e).app (ys:=v3 x) (λb a=>hQ b O) rfl rfl ?_ (by simp[v3,dM]) ?_ ?_ n4 λs' m _ g i _=>hK s' m ?_ ?_
 ·intro j u hu;rw[add_lit,zG,a.cell];exact hu
 ·simp only;have:(s.len+1)*24<=1001*24:=kU O O;omega
 ·simp only;omega
 ·exact(bO.to e).trans (g.sub λb a=>((ho.bK e).jR a).1)
 ·rw[Bv];exact i
theorem RZ (w:Int)(h:w<2\/16<w){R:Sl->Int->Hp->Prop}(hR:R ⟨none,0,0⟩ 1 σ):WV.c w σ R:=by
 refine WV.o ?_;exact bY.intro (cH (λa=>cJ rfl hR) λa=>cJ (zU O) hR)
theorem FF (w:Int)(hw1:2<=w)(hw2:w<=16){R:Sl->Int->Hp->Prop}(hR:∀s' σ',bO σ σ'->gK σ' s' (qR w)->R s' 0 σ'):WV.c w σ R:=by
 refine WV.o ?_;refine bY.intro (fH O (cF (zb O) ?_));refine Kh (a:=.s) (bb:=bN) (λ(all:Sl) (s:Int) u=>∃(n:Nat) (done:List T3),8<=s/\s<=768/\bO σ u/\Own (λb=>σ.size<=b) u all 3 (kD done)/\done++iE n s w=iE 64 8 w/\512<=s+8*(n:Int)/\(∀x∈done,s8 x)/\done.length+n=64) (λ_ s _=>1000-s.toNat) ⟨64,[],O,O,Ext.refl _ _,Own.nil _ _ _,rfl,O,by simp,by simp⟩ ?_;rintro(all:Sl) (s:Int) u ⟨n,done,hs1,hs2,eu,ho,hdone,hn,hok,hlen⟩;refine cH (λM=>?_) λN=>?_
 ·obtain⟨n,rfl⟩:∃m,n=m+1:=⟨n-1,O⟩;refine Jz s w O O hw1 hw2 λv2 e2=>?_;refine uP (ho.bK e2) (λb E=>by have:=eu.1;have:=e2.1;omega) O (lO s w) λall1 v4 e4 h4=>?_;have e04:bO σ v4:=Ext.fE (eu.trans e2) e4 λb E=>.inr E;refine Wkz s w O O hw1 λd1 d2=>ar O O ⟨⟨n,done++[lO s w],O,O,e04,h4,?_,O,λx B=>?_,by simp;omega⟩,O⟩
  ·rw[←hdone,kF]
   congr 1
   conv=>rhs;rw[iE,zB M]
   rfl
  ·rcases zP.1 B with h1|h1
   ·exact hok x h1
   ·rw[zS]at h1;subst h1;exact Ip s w O O
 ·have P:iE n s w=[]:=by
   cases n with
   | zero=>rfl
   | succ n=>rw[iE,zA N]
  rw[P,km]at hdone;refine Jz 512 w O O hw1 hw2 λv6 e6=>?_;refine uP (ho.bK e6) (λb E=>by have:=eu.1;have:=e6.1;omega) O (lO 512 w) λe v8 e8 J=>?_;have e08:bO σ v8:=Ext.fE (eu.trans e6) e8 λb E=>.inr E;rw[hdone]at J;have j:∀x∈allM w,s8 x:=λx B=>by
   rcases zP.1 B with h1|h1
   ·rw[←hdone]at h1;exact hok x h1
   ·rw[zS]at h1;subst h1;exact Ip 512 w O O
  have hml:(allM w).length<=65:=by unfold allM;rw[←hdone];simp;omega
  have J:Own (λb=>σ.size<=b) v8 e 3 (kD (allM w)):=J;generalize hall:allM w=l at J j hml;have hmk:qR w=mS l l.length:=by unfold qR;rw[hall]
  have hl2:e.len=l.length:=by have:=J.1;rw[UB]at this;omega
  refine Kh (a:=.s) (bb:=bN) (λ(out:Sl) (z:Int) u=>∃i:Nat,z=(i:Int)/\i<=l.length/\bO v8 u/\Own (λb=>v8.size<=b) u out 3 (kD (mS l i))/\(mS l i).length<=i) (λ_ z _=>l.length-z.toNat) ⟨0,rfl,O,Ext.refl _ _,Own.nil _ _ _,by simp[mS]⟩ ?_;rintro(out:Sl) (z:Int) u ⟨i,rfl,hi,eu8,hout,hol⟩;refine cH (λM=>?_) λN=>?_
  ·have hi':i<l.length:=by omega
   have B:l[i]?=some l[i]:=cL hi';generalize l[i]=x at B;have C:=j x (zE B);have g:mS l (i+1)=mS l i++(if pC l i then[x]else[]):=by
    unfold mS;rw[zw,vw]
    congr 1
    by_cases hk:pC l i=true
    ·simp[hk,B]
    ·simp[hk]
   have hA:∀m,bO u m->gK m e l:=λm d=>F8 (J.bK (eu8.trans d));refine C6 (λr u'=>bO u u'/\r=pC l i) (λr u' ⟨A,hr⟩=>?_) λJ3 F=>?_
   ·have V:=hout.bK A;cases hk:pC l i with
    | true=>
     rw[hk]at hr g;refine cJ hr (Hj (hA u' A) B ?_);refine uP V (λb E=>by have:=eu8.1;have:=A.1;omega) O x λout1 v12 e12 h12=>?_;refine bZ (m:=i+1) O O ⟨⟨i+1,rfl,O,Ext.fE (eu8.trans A) e12 λb E=>.inr E,?_,?_⟩,O⟩
     ·rw[g];exact h12
     ·rw[g];simp;omega
    | false=>
     rw[hk]at hr g;refine cF hr (bZ (m:=i+1) O O ⟨⟨i+1,rfl,O,eu8.trans A,?_,?_⟩,O⟩)
     ·rw[g];simpa using V
     ·rw[g];simp;omega
   ·refine⟨λm=>bO u m,Ext.refl _ _,ar O O ?_⟩;refine cN (λH=>F _ _ ⟨Ext.refl _ _,?_⟩) λhnl=>?_
    ·have:i=l.length-1:=by simp only[zZ]at H;omega
     unfold pC;rw[this];simp
    ·have hi2:i+1<l.length:=by simp only[nk]at hnl;omega
     have Y:l[i+1]?=some l[i+1]:=cL hi2;generalize l[i+1]=y at Y;have D:=j y (zE Y);have L:pC l i=(x.2.1 != y.2.1||nr x != nr y):=by
      unfold pC;rw[B,Y];have:(i==l.length-1)=false:=by simp only[nk];omega
      rw[this];rfl
     have U:=λ(m:Hp) (d:bO u m)=>(hA m d).2 i x.1 x.2.1 x.2.2 B;have hcy:=λ(m:Hp) (d:bO u m)=>(hA m d).2 (i+1) y.1 y.2.1 y.2.2 Y;obtain⟨b,o,ha,_,_⟩:=U u (Ext.refl _ _);have Z:∀m,bO u m->cell m ⟨b,o+i*3,none⟩=some (.int .i64 x.1)/\cell m ⟨b,o+i*3+1,none⟩=some (.int .i64 x.2.1)/\cell m ⟨b,o+i*3+2,none⟩=some (.int .i64 x.2.2):=λm d=>by
      obtain⟨b',o',p,_,h⟩:=U m d;rw[ha]at p;cases p;exact h
     have X:∀m,bO u m->cell m ⟨b,o+(i+1)*3,none⟩=some (.int .i64 y.1)/\cell m ⟨b,o+(i+1)*3+1,none⟩=some (.int .i64 y.2.1)/\cell m ⟨b,o+(i+1)*3+2,none⟩=some (.int .i64 y.2.2):=λm d=>by
      obtain⟨b',o',p,_,h⟩:=hcy m d;rw[ha]at p;cases p;exact h
     have S:∀{K:Addr->Prop},K ⟨b,o+i*3,none⟩->Ix e.a e.len (i:Int) 3 K:=λhK=>by
      rw[ha];exact ix O O (by rw[add_lit,dC];exact hK)
     have Q:∀{K:Addr->Prop},K ⟨b,o+(i+1)*3,none⟩->Ix e.a e.len ((i+1:Nat):Int) 3 K:=λhK=>by
      rw[ha];exact ix O O (by rw[add_lit,dC];exact hK)
     refine S ⟨x.2.1,λm d=>by rw[add_lit];exact(Z m d).2.1,bZ (m:=i+1) O O (Q ⟨y.2.1,λm d=>by rw[add_lit];exact(X m d).2.1,?_⟩)⟩;refine cN (λhp=>F _ _ ⟨Ext.refl _ _,by rw[L,hp];rfl⟩) λhp=>?_;refine S ⟨x.1,λm d=>by rw[add_lit];exact(Z m d).1,⟨x.2.1,λm d=>by rw[add_lit];exact(Z m d).2.1,⟨x.2.2,λm d=>by rw[add_lit];exact(Z m d).2.2,?_⟩⟩⟩;refine bZ (m:=i+1) O O (Q ⟨y.1,λm d=>by rw[add_lit];exact(X m d).1,⟨y.2.1,λm d=>by rw[add_lit];exact(X m d).2.1,⟨y.2.2,λm d=>by rw[add_lit];exact(X m d).2.2,?_⟩⟩⟩);refine Lp x C.1 C.2.1 C.2.2.1 C.2.2.2 λv13 G=>⟨G,Lp y D.1 D.2.1 D.2.2.1 D.2.2.2 λv14 W=>⟨G.trans W,F _ _ ⟨G.trans W,by rw[L,hp];rfl⟩⟩⟩
  ·have hil:i=l.length:=by omega
   subst hil;refine hR out u (e08.trans eu8) ?_;rw[hmk];exact F8 hout
theorem Gs:∀w:Nat,2<=w->w<=16->Qq (qR (w:Int))=true:=by
 have h:((List.range 17).all λw=>decide (w<2)||Qq (qR (w:Int)))=true:=by decide +kernel
 intro w h1 h2;have:=kR.1 h w (zW.2 O);simp only[nX,zR]at this;exact this.resolve_left O
end Go.Ar
namespace Go.Proofs
open Go.Shelf
def Tryz.eU:Go.Shelf.Ren:=⟨fun|6=>261|15=>129|14=>284|28=>167|29=>168|20=>303|21=>304|22=>305|23=>306|24=>307|25=>308|26=>309|27=>310|46=>316|47=>206|48=>207|49=>317|50=>318|57=>320|n=>n,fun|22=>124|24=>130|25=>346|3=>3|39=>199|0=>0|53=>255|55=>257|4=>4|46=>248|45=>247|50=>252|5=>5|9=>9|66=>299|70=>105|76=>335|77=>336|n=>n,fun|n=>n⟩
theorem Tryz.qs:Go.Proofs.SlLaysF0.n6 Tryz.prog Tryz.eU:={
 mixed:=by kernel_rfl
 f6:=⟨Tryz.f261.name,by decide,Tryz.func261.trans (congrArg some (by kernel_rfl))⟩
 f14:=⟨Tryz.f284.name,by decide,Tryz.func284.trans (congrArg some (by kernel_rfl))⟩
 f15:=Tryz.func129.trans (congrArg some (by kernel_rfl))
 f20:=⟨Tryz.f303.name,by decide,Tryz.func303.trans (congrArg some (by kernel_rfl))⟩
 f21:=⟨Tryz.f304.name,by decide,Tryz.func304.trans (congrArg some (by kernel_rfl))⟩
 f22:=⟨Tryz.f305.name,by decide,Tryz.func305.trans (congrArg some (by kernel_rfl))⟩
 f23:=⟨Tryz.f306.name,by decide,Tryz.func306.trans (congrArg some (by kernel_rfl))⟩
 f24:=⟨Tryz.f307.name,by decide,Tryz.func307.trans (congrArg some (by kernel_rfl))⟩
 f25:=⟨Tryz.f308.name,by decide,Tryz.func308.trans (congrArg some (by kernel_rfl))⟩
 f26:=⟨Tryz.f309.name,by decide,Tryz.func309.trans (congrArg some (by kernel_rfl))⟩
 f27:=⟨Tryz.f310.name,by decide,Tryz.func310.trans (congrArg some (by kernel_rfl))⟩
 f28:=Tryz.func167.trans (congrArg some (by kernel_rfl))
 f29:=Tryz.func168.trans (congrArg some (by kernel_rfl))
 f46:=⟨Tryz.f316.name,by decide,Tryz.func316.trans (congrArg some (by kernel_rfl))⟩
 f47:=Tryz.func206.trans (congrArg some (by kernel_rfl))
 f48:=Tryz.func207.trans (congrArg some (by kernel_rfl))
 f49:=⟨Tryz.f317.name,by decide,Tryz.func317.trans (congrArg some (by kernel_rfl))⟩
 f50:=⟨Tryz.f318.name,by decide,Tryz.func318.trans (congrArg some (by kernel_rfl))⟩
 f57:=⟨Tryz.f320.name,by decide,Tryz.func320.trans (congrArg some (by kernel_rfl))⟩
 t0:=Tryz.underlying0
 a0:=Tryz.isAgg0
 z0:=Tryz.sizeOf0
 v0:=Tryz.zeroValue0
 t3:=Tryz.underlying3
 a3:=Tryz.isAgg3
 z3:=Tryz.sizeOf3
 v3:=Tryz.zeroValue3
 t4:=Tryz.underlying4
 a4:=Tryz.isAgg4
 z4:=Tryz.sizeOf4
 v4:=Tryz.zeroValue4
 t5:=Tryz.underlying5
 a5:=Tryz.isAgg5
 z5:=Tryz.sizeOf5
 v5:=Tryz.zeroValue5
 t9:=Tryz.underlying9
 a9:=Tryz.isAgg9
 z9:=Tryz.sizeOf9
 v9:=Tryz.zeroValue9
 t22:=Tryz.underlying124
 a22:=Tryz.isAgg124
 z22:=Tryz.sizeOf124
 v22:=Tryz.zeroValue124
 t25:=Tryz.underlying346
 a25:=Tryz.isAgg346
 z25:=Tryz.sizeOf346
 v25:=Tryz.zeroValue346
 t39:=Tryz.underlying199
 a39:=Tryz.isAgg199
 z39:=Tryz.sizeOf199
 v39:=Tryz.zeroValue199
 t45:=Tryz.underlying247
 a45:=Tryz.isAgg247
 z45:=Tryz.sizeOf247
 v45:=Tryz.zeroValue247
 t46:=Tryz.underlying248
 a46:=Tryz.isAgg248
 z46:=Tryz.sizeOf248
 v46:=Tryz.zeroValue248
 t50:=Tryz.underlying252
 a50:=Tryz.isAgg252
 z50:=Tryz.sizeOf252
 v50:=Tryz.zeroValue252
 t53:=Tryz.underlying255
 a53:=Tryz.isAgg255
 z53:=Tryz.sizeOf255
 v53:=Tryz.zeroValue255
 t55:=Tryz.underlying257
 a55:=Tryz.isAgg257
 z55:=Tryz.sizeOf257
 v55:=Tryz.zeroValue257
 t66:=Tryz.underlying299
 a66:=Tryz.isAgg299
 z66:=Tryz.sizeOf299
 v66:=Tryz.zeroValue299
 t70:=Tryz.underlying105
 a70:=Tryz.isAgg105
 z70:=Tryz.sizeOf105
 v70:=Tryz.zeroValue105
 t76:=Tryz.underlying335
 a76:=Tryz.isAgg335
 z76:=Tryz.sizeOf335
 v76:=Tryz.zeroValue335
 t77:=Tryz.underlying336
 a77:=Tryz.isAgg336
 z77:=Tryz.sizeOf336
 v77:=Tryz.zeroValue336}
end Go.Proofs
namespace Go.Ar
open Go Go.Vc Go.Proofs Go.RowKit Go.Sort Go.Shelf Go.Lib
abbrev tu:=Fin 64×Sl
instance:Inhabited tu:=⟨(0,⟨none,0,0⟩)⟩
def kV (x:tu):List Value:=[.int .i64 (x.1.val:Int),.slice x.2.a x.2.len x.2.cap]
def pI (x y:tu):Int:=(x.1.val:Int)-(y.1.val:Int)
theorem Bl (x y:tu)(W:World):Calls Tryz.prog 262 #[.agg #[.int .i64 (x.1.val:Int),.slice x.2.a x.2.len x.2.cap],.agg #[.int .i64 (y.1.val:Int),.slice y.2.a y.2.len y.2.cap]] W λe w'=>e=.returned (.int .i64 (pI x y))/\∃q os',w'=grow (W.drewN q) os':=by
 have b:IntKind.i64.wrap ((x.1.val:Int)-(y.1.val:Int))=pI x y:=by
  have d:=x.1.isLt;have g:=y.1.isLt;unfold pI;exact UV O O
 go_enter Tryz.func262,Tryz.ntmps262
 go_wp2
 go_ret
 exact⟨rfl,0,_,by rw[alloc_eq_grow,alloc_eq_grow,grow_grow];rfl⟩
theorem C7:SWO (ltOf pI) where
 irrefl x:=by simp[ltOf,pI]
 trans x y z a h2:=by
  have a:=ot a;have h2:=ot h2;unfold pI at a h2;exact zU (by unfold pI;omega)
 ntrans x y z a h2:=by
  have a:=rU a;have h2:=rU h2;unfold pI at a h2;exact zb (by unfold pI;omega)
def uI (x:tu):Nat×Sl:=(x.1.val,x.2)
theorem FU (l:List tu)(j:Nat)(hj:j<l.length*2):(fO (l.map uI))[j]?=some (flatK kV 2 l.toArray)[j]! := by
 rw[get_flatK _ _ _ _ (by simpa using hj)];have a:j/2<l.length:=by omega
 have e:l.toArray[j/2]! = l[j/2]:=by rw[getElem!_pos _ _ (by simpa using a)];simp
 have b:(l.map uI)[j/2]?=some (uI l[j/2]):=by simp[a]
 have:=MS b (d:=j%2) O;rw[show 2*(j/2)+j%2=j by omega]at this;rw[this,e];have hd:j%2=0\/j%2=1:=by omega
 rcases hd with h|h<;>rw[h]<;>rfl
theorem Ba:Gj:=by
 intro σ F s xs hrow hk hlen R hR;rintro w rfl;have Z:s.len=xs.length:=by have:=hrow.1;rw[KF]at this;omega
 rcases hrow.2 with⟨h0,hc0⟩|⟨b,cs,hF,ha,hb,hle,hcl,ht⟩
 ·have J:xs=[]:=w9.1 O;have:=AnyF.slices_SortFunc_none Tryz.qs s.a s.cap (.func (.func 262) #[] #[]) w;show Calls _ _ #[.slice s.a s.len s.cap,.func (.func 262) #[] #[]] w _;rw[h0];refine this.mono ?_;rintro e w' ⟨rfl,rfl⟩;subst J;exact⟨.refl _,[],rfl,hR [] _ (.refl _) List.Pairwise.nil (Ext.refl _ _) hrow⟩
 ·have G:∀x∈xs,x.1<64:=hk
  let toK:Nat×Sl->tu:=λx=>(Fin.ofNat 64 x.1,x.2)
  have u:(xs.map toK).map uI=xs:=by
   rw[kP]
   conv=>rhs;rw[←xJ xs]
   apply kA;intro x hx;simp only[Function.comp,toK,uI,Fin.ofNat,id];rw[vq (G x hx)]
  have E:(xs.map toK).length=xs.length:=by simp
  generalize xs.map toK=l at u E;have A:=hb.lt;have Y:HoldsK kV 2 w b 0 l.toArray:=by
   intro j hj;simp only[size_flatK,Aa]at hj;have W:Vc.cell w.heap ⟨b,0+j,none⟩=some (flatK kV 2 l.toArray)[j]! := by
    rw[hb.cell,zG,←FU l j hj,u];rw[←ht,zY,zB (by rw[KF];omega)]
   exact⟨W,hb.pc⟩
  have eg:∀args w,(callFunc 262 args).run Tryz.prog w=.ok (.enter 262 args) w:=enters_of Tryz.func262 (by kernel_rfl) rfl;have C:∀w,(isAgg (Tryz.eU.t 24)).run Tryz.prog w=.ok true w:=λw=>by
   have h:=KT (P:=Tryz.prog) (t:=Tryz.eU.t 24) (d:=(Tryz.prog.underlying (Tryz.eU.t 24)).getD .bool) (by kernel_rfl) w
   rwa [show UK ((Tryz.prog.underlying (Tryz.eU.t 24)).getD .bool)=true by kernel_rfl]at h
  have L:∀w,(Go.sizeOf (Tryz.eU.t 24)).run Tryz.prog w=.ok 2 w:=λw=>by
   have h:=QU (P:=Tryz.prog) (t:=Tryz.eU.t 24) (by kernel_rfl) w
   rwa [show Tryz.prog.cellsOf (Tryz.eU.t 24)=2 by kernel_rfl]at h
  have z:=AnyQ.slices_SortFunc Tryz.qs 2 C L kV (λ_=>rfl) (λx v S=>by simp only[kV,zT,List.not_mem_nil,or_false]at S;rcases S with rfl|rfl<;>rfl) pI C7 262 #[] b 0 s.cap l.toArray w eg (λ_ _ _ _ x y=>Bl x y _) Y A (by simp only[Aa];omega)
  show Calls _ _ #[.slice s.a s.len s.cap,.func (.func 262) #[] #[]] w _;rw[ha,show s.len=l.toArray.size by simp only[Aa];omega];refine z.mono ?_;rintro e w' ⟨rfl,d',n,os,Q,H,rfl⟩;have g:d'.size=l.length:=by simpa using Q.1
  have r:d'.toList.Perm l:=by
   have N:=Q.2.2;rw[show l.toArray.size=d'.size by simp[g]]at N;have e1:(d'.extract 0 d'.size)=d':=by simp
   have e2:(l.toArray.extract 0 d'.size)=l.toArray:=by rw[g];simp
   rw[e1,e2]at N;simpa using N
  obtain⟨X,K⟩:=hb;have m:(sortWorldK kV 2 w b 0 n d' os).heap=(w.heap.modify b (onCells (putCells id 0 (flatK kV 2 d'))))++os:=rfl;have p:(w.heap.modify b (onCells (putCells id 0 (flatK kV 2 d')))).size=w.heap.size:=by simp
  refine⟨⟨rfl,rfl,rfl,by rw[m,Array.size_append,p];omega⟩,[],rfl,?_⟩;rw[m];have B:Ext F w.heap ((w.heap.modify b (onCells (putCells id 0 (flatK kV 2 d'))))++os):=by
   refine⟨by rw[Array.size_append,p];omega,λq V U=>?_⟩;rw[D7 (by rw[p];exact V),AA,zA λ(e:b=q)=>U (by rw[←e];exact hF)]
  refine hR (d'.toList.map uI) _ ?_ ?_ B ⟨?_,.inr ⟨b,(putCells id 0 (flatK kV 2 d') cs.toArray).toList,hF,ha,⟨X,?_⟩,hle,?_,?_⟩⟩
  ·rw[←u];exact r.map _
  ·rw[rK];rw[zy];intro i j hi hj hij;have D:=H i j O hij (by simp only[xd]at hj;simp only[Aa];omega);rw[getElem!_pos d' i (by simpa using hi),getElem!_pos d' j (by simpa using hj)]at D;have D:=rU D;unfold pI at D;simp only[uI,Array.getElem_toList];omega
  ·rw[KF,za,xd,g];omega
  ·rw[D7 (by rw[p];exact A),AA,zB rfl,K];simp[onCells]
  ·simp[putCells,hcl]
  ·rw[KF,za,xd,g];apply zp;intro j;rw[zY];by_cases hj:j<l.length*2
   ·rw[zB hj,FU d'.toList j (by simpa[g]using hj)];have M:j<cs.length:=by
     have:l.length*2<=s.cap*2:=lS _ O;omega
    simp only[putCells,yX,Array.getElem?_mapIdx,List.getElem?_toArray,cL M,zh];rw[zB ⟨O,by rw[size_flatK,g];omega⟩];simp
   ·rw[zA hj,zX (by rw[KF,za,xd,g];omega)]
end Go.Ar
namespace Go.Proofs
open Go.Vc
set_option maxRecDepth 100000
def XI.h:Hn:=.q .o1 (.q .o4 .l)
theorem XI.o {a:Hp}{b:Option Addr->Hp->Prop}(c:Wu.c 8 64 1 1 1024 2 a λc d=>b c d):XI.c a b:=Wa Tryz.func29 (x:=XI.h) (R0 c)
def X7.h:Hn:=.q .o1 (.q .o5 .l)
theorem X7.o {a:Sl}{b:Int}{c:Hp}{d:aO}(e:d (decide (((a.len:Nat):Int)>b)) c):X7.c a b c d:=Wa Tryz.func34 (x:=X7.h) (R0 e)
def Wu.h:Hn:=.q .o2 (.q .o8 (.q .o9 (.q (.q .o2 .aK) .aL)))
theorem Wu.o {a b c d e f:Int}{g:Hp}{h:Option Addr->Hp->Prop}(i:aV #[.I a,.I b,.I c,.I d,.I e,.I f] 65 g λi j=>aQ i 0 j λk=>WV.c k j λl m n=>bM ((i.add 1).add 0) n λo=>bM ((i.add 1).add 1) n λp=>bM ((i.add 1).add 2) n λq=>bM ((i.add 1).add 3) n λr=>bM ((i.add 1).add 4) n λs=>KC.c l o p q r s n λt u v=>If (u != 0) (h none v) (h t v)):Wu.c a b c d e f g h:=Wa Tryz.func63 (x:=Wu.h) (R0 i)
def WQ.h:Hn:=.q .o2 (.q .o5 .l)
theorem WQ.o {a b c d e f:Int}{g:Hp}{h:aO}(i:aV #[.I a,.I b,.I c,.I d,.I e,.I f] 65 g λi j=>bM ((i.add 1).add 0) j λk=>h (decide (k>128)) j):WQ.c a b c d e f g h:=Wa Tryz.func64 (x:=WQ.h) (R0 i)
def Yo.h:Hn:=.q .o2 (.q (.q (.cV (.seq [.op,.op,.op,.op,.dA false 3 (RI.ops 3)])) (.c (.q .o3 .l) .l)) (.q (.oq 12) .l))
theorem Yo.o {a:Sl}{b c d e f g h:Int}{i:ByteArray}{j:Hp}{k:aN}(l:aV #[.I b,.I c,.I d,.I e,.I f,.I g,.I h,.string i] 87 j λl m=>aQ l 4 m λn=>bY (λo p=>If o (aQ l 5 p λq=>k q p) (aQ l 4 p λr=>Nz ((a.len:Nat):Int) <| Ix a.a a.len (r.tmod ((a.len:Nat):Int)) 1 λs=>bM s p λt=>aQ l 5 p λu=>bL (t+u) λv=>k v p)) λw=>If (n<0) (w true m) (w (((a.len:Nat):Int)==0) m)):Yo.c a b c d e f g h i j k:=Wa Tryz.func69 (x:=Yo.h) (R0 l)
def Zf.h:Hn:=.q .o4 (.q .o4 (.q (.q .o2 (.k (.q .o2 (.c (.q (.o 13) (.q .o6 .l)) (.q .o2 (.c (.q .o8 .l) (.q .o2 (.c (.q .o7 .l) (.q .o2 (.c (.q .o8 .l) (.q .o2 (.c (.q .o8 (.q .o5 .l)) (.q .o2 (.c (.q (.o 12) .l) (.q .o2 (.c (.q .o9 .l) (.q .o2 (.c (.q (.o 12) (.q (.q (.cV (.seq [.op,.op,.op,.dA false 2 [.op,.op]])) (.c (.q .o4 .l) .l)) (.q (.oq 10) .l))) (.q .o2 (.c (.q .o9 (.q .o5 .l)) (.q .o2 (.c (.q .o5 .l) (.q .o2 (.c .o2 .l)))))))))))))))))))))))) (.q .o3 .l)))
theorem Zf.o {a:R2}{b:Sl}{c d e f g h i:Int}{j:ByteArray}{k:Hp}{l:Int->Int->Int->Hp->Prop}(m:aV #[.I c,.I d,.I e,.I f,.I g,.I h,.I i,.string j] 87 k λm n=>aQ m 0 n λo=>aQ m 1 n λp=>aQ m 2 n λq=>aQ m 3 n λr=>aQ m 4 n λs=>aQ m 5 n λt=>aQ m 6 n λu=>bC m 7 n λv=>Yo.c b o p q r s t u v n λw x=>aQ m 0 x λy=>If (y==0) (aQ m 1 x λz=>aQ m 2 x λaa=>aQ m 3 x λab=>Yp.c a z aa ab x λac ad ae=>l ac ad ac ae) (If (y==1) (aQ m 1 x λaf=>Zl.c a af w x λag ah=>l 0 ag 0 ah) (If (y==2) (aQ m 1 x λai=>Zw.c a ai x λaj ak=>l 0 aj 0 ak) (If (y==3) (aQ m 6 x λal=>Zt.c a w al x λam an=>l 0 am 0 an) (If (y==4) (Zx.c a w x λao ap aq=>l ao ap 0 aq) (If (y==5) (aQ m 1 x λar=>aQ m 2 x λau=>aQ m 3 x λav=>Yi.c a ar 0 au av 0 x λaw ax=>l 0 aw 0 ax) (If (y==6) (aQ m 1 x λay=>Yi.c a ay 1 0 0 w x λaz a0=>l 0 az 0 a0) (If (y==7) (aQ m 1 x λa1=>Y7.c a a1 x λa2 a3 a4 a5 a6=>aV #[.I 0,.I 0] 156 a6 λa7 a8=>aR a7 0 (.I a3) a8 λa9=>aR a7 1 (.I a4) a9 λba=>bY (λbb bc=>If bb (l 0 a5 0 bc) (aQ a7 0 bc λbd=>aQ a7 1 bc λbe=>bL (100+be) λbf=>aQ a7 0 bc λbg=>l bd bf bg bc)) λbh=>If (a5 != 0) (bh true ba) (bh (!a2) ba)) (If (y==8) (aQ m 2 x λbi=>
 YD.c a bi x λbj bk bl=>l bj bk 0 bl) (If (y==9) (ZD.c a x λbm bn=>l bm 0 0 bn) (If (y==10) (ZE.c a x λbo=>l 0 0 0 bo) (l 0 0 0 x)))))))))))):Zf.c a b c d e f g h i j k l:=Wa Tryz.func70 (x:=Zf.h) (R0 m)
end Go.Proofs
namespace Go.Ar
open Go Go.Vc Go.Proofs
variable {σ w w':Hp}{F P Q:Rg}{L:dP}{H H':Hw}{held:List Pc}{s0:Sp}{t n:Nat}{g:Th}
structure fL where
 kd:Int
 th:Int
 a:Int
 b:Int
 of:Int
 pl:Int
 va:Int
 s:ByteArray
def qB (d:fL):List Value:=[.int .i64 d.kd,.int .i64 d.th,.int .i64 d.a,.int .i64 d.b,.int .i64 d.of,.int .i64 d.pl,.int .i64 d.va,.string d.s]
def lP (x:Int):Prop:=-9223372036854775808<=x/\x<=9223372036854775807
structure lD (d:fL):Prop where
 a:lP d.a
 b:lP d.b
 pl:lP d.pl
 va:lP d.va
structure j2 (σ:Hp) (sl:Sl) (ds:List fL):Prop where
 len:sl.len=ds.length
 at_:∀(i:Nat) (d:fL),ds[i]?=some d->∃b o,sl.a=some ⟨b,o,none⟩/\b<σ.size/\∀(j:Nat) v,(qB d)[j]?=some v->cell σ ⟨b,o+i*8+j,none⟩=some v
 i:∀d∈ds,lD d
 Ad:ds.length<=9223372036854775807
theorem j2.bK {sl:Sl}{ds:List fL}(h:j2 σ sl ds)(e:bO σ w):j2 w sl ds:=⟨h.len,λi d r=>by
 obtain⟨b,o,g,p,m⟩:=h.at_ i d r;exact⟨b,o,g,by have:=e.1;omega,λj v a=>by rw[QV e p id];exact m j v a⟩,h.i,h.Ad⟩
theorem j2.rd {sl:Sl}{ds:List fL}(h:j2 σ sl ds)(e:bO σ w){i:Nat}{d:fL}(hx:ds[i]?=some d){K:Addr->Prop}(hK:∀b o,(∀w',bO σ w'->∀(j:Nat) v,(qB d)[j]?=some v->cell w' ⟨b,o+j,none⟩=some v)->K ⟨b,o,none⟩):Ix sl.a sl.len (i:Int) 8 K:=by
 obtain⟨b,o,r,u,s⟩:=h.at_ i d hx;have x:=(cS.1 hx).1;have g:=h.len;rw[r];refine ix O O ?_;rw[add_lit,dC];exact hK b _ λw' p j v m=>by rw[QV p u id];exact s j v m
theorem Cz {b o i:Nat}{h:Hp}{x:ByteArray}{K:ByteArray->Prop}(hc:cell h ⟨b,o+i,none⟩=some (.string x))(hK:K x):xp (Addr.add ⟨b,o,none⟩ i) h K:=⟨x,by rw[add_lit];exact hc,hK⟩
theorem _root_.Go.Vc.bW.rT {b o i:Nat}{cs:List Value}(hb:bW σ b cs){x:ByteArray}{K:ByteArray->Prop}(hc:cs[o+i]?=some (.string x))(hK:K x):xp (Addr.add ⟨b,o,none⟩ i) σ K:=⟨x,by rw[add_lit,hb.cell];exact hc,hK⟩
def uk (ad:List Int)(d:fL):Int:=if d.of<0\/ad=[]then d.pl else IntKind.i64.wrap (ad.getD (d.of.toNat%ad.length) 0+d.pl)
theorem Lr {ad:List Int}{d:fL}(h:lD d):lP (uk ad d):=by
 unfold uk;split
 ·exact h.pl
 ·exact TW _
theorem Ib {addrs:Sl}{ad:List Int}(hs:cP addrs 1 (Wv ad) σ F)(d:fL){R:aN}(hR:∀σ',bO σ σ'->R (uk ad d) σ'):Yo.c addrs d.kd d.th d.a d.b d.of d.pl d.va d.s σ R:=by
 refine Yo.o ?_;have A:addrs.len=ad.length:=by have:=hs.1;simp[Wv]at this;omega
 refine nw (cs:=qB d) λv D e j=>j.rI rfl (V6 (λr w=>w=v/\r=decide (d.of<0\/ad=[])) (λr w ⟨B,y⟩=>?_) λJ z=>cH (λp=>z _ _ ⟨rfl,by rw[zU (.inl p)]⟩) λp=>z _ _ ⟨rfl,?_⟩)
 ·subst B;have g:=hR w e;by_cases hc:d.of<0\/ad=[]
  ·refine cJ (by rw[y];exact zU hc) (j.rI rfl ?_);unfold uk at g;rw[zB hc]at g;exact g
  ·have i:0<ad.length:=qC.2 λh=>hc (.inr h);refine cF (by rw[y];exact zb hc) (j.rI rfl (nz O ?_));have x:0<=d.of:=by omega
   have C:d.of.tmod (addrs.len:Int)=((d.of.toNat%ad.length:Nat):Int):=by
    rw[Q4 x,A,Int.natCast_emod,Int.toNat_of_nonneg x]
   rw[C];have m:d.of.toNat%ad.length<ad.length:=vW _ i;have u:ad[d.of.toNat%ad.length]?=some ad[d.of.toNat%ad.length]:=cL m;refine(cP.loc _ _ _ |>.bK (aH.cut hs) e).qc u (j.rI rfl (yx ?_));unfold uk at g;rw[zA hc,zN,u]at g;exact g
 ·rw[A];rw[mX];simp only[zZ,zR];constructor
  ·intro h;exact .inr (w9.1 O)
  ·rintro(h|h)
   ·exact(p h).elim
   ·rw[h];rfl
theorem ME {l:Sl}{most:Int}{R:aO}(hR:R (decide ((l.len:Int)>most)) σ):X7.c l most σ R:=by
 refine X7.o ?_;exact hR
theorem T5 {xs:List (Int×Int×Int)}(h:Qq xs=true):(xs.map Z0).map j9=xs:=by
 rw[kP]
 conv=>rhs;rw[←xJ xs]
 apply kA;intro t ht;obtain⟨i,e⟩:=zL ht;have:=((QA xs).1 h).2.2.1 i t e;obtain⟨c,_,a,d,g,b⟩:=yR this;simp only[Function.comp,id];rw[show Z0 t=c from a];unfold j9;rw[←d,←g,←b]
theorem WoW {xs:List (Int×Int×Int)}(h:Qq xs=true):(xs.map Z0).length<=40/\∀c∈xs.map Z0,c.ok:=by
 refine⟨by have:=((QA xs).1 h).2.1;simpa using this,λc d=>?_⟩;obtain⟨t,g,rfl⟩:=zD.1 d;obtain⟨i,e⟩:=zL g;have:=((QA xs).1 h).2.2.1 i t e;obtain⟨c,a,b,_⟩:=yR this;rw[show Z0 t=c from b];exact a
structure uO (H:Hw) (aF:Int):Prop where
 hi:HI H [] (Vy H.cf.aF)
 cf:mI H
 pg:(H.cf.aF:Int)=aF
 live:H.live=[]
 ph:∀g∈H.bS,g.ph=none
theorem JR {xs:List (Int×Int×Int)}{p a t b r:Int}(h:Qq xs=true)(hc:sy p a t b r=true):uO (Ur (xs.map Z0) ⟨p.toNat,a.toNat,t.toNat,b.toNat,r.toNat⟩) p:=by
 obtain⟨⟨y,j,s⟩,⟨w,x⟩,⟨u,m⟩,_⟩:=(LR p a t b r).1 hc;obtain⟨e,d⟩:=WoW h;refine⟨Sr (cf:=⟨p.toNat,a.toNat,t.toNat,b.toNat,r.toNat⟩) aC aC aC aC e d,⟨by simp only[Ur];omega,by simp[Ur],?_⟩,by simp only[Ur];omega,rfl,λg i=>by rw[DG i]⟩;show Qq ((xs.map Z0).map j9)=true;rw[T5 h];exact h
theorem ON (g:Gl σ)(gd:Gd σ)(b b1 b2 b3 b4 b5:Int){R:Option Addr->Hp->Prop}(h0:∀σ',bO σ σ'->R none σ')
 (h1:∀σ' L N H,bO σ σ'->σ.size<=N->N<=σ'.size->HH σ' (λb=>N<=b) L H->uO H b1->R (some ⟨L.p,0,none⟩) σ'):Wu.c b b1 b2 b3 b4 b5 σ R:=by
 refine Wu.o ?_;refine nw (cs:=[.int .i64 b,.int .i64 b1,.int .i64 b2,.int .i64 b3,.int .i64 b4,.int .i64 b5]) λv G e j=>j.rI rfl ?_;by_cases hw:2<=b/\b<=16
 ·refine FF b hw.1 hw.2 λs D C A=>?_;have a:=C.cA j id;have d:=e.trans C;have r:Qq (qR b)=true:=by
   have:=Gs b.toNat O O;rw[show((b.toNat:Nat):Int)=b by omega]at this;exact this
  refine a.gD rfl (a.gD rfl (a.gD rfl (a.gD rfl (a.gD rfl ?_))));refine Bm A (g.bK d) (gd.bK d) b1 b2 b3 b4 b5 (λu=>by rw[r]at u;cases u) (λ_ B w m=>?_) λ_ B w L m F=>?_
  ·exact cJ rfl (h0 w (d.trans m))
  ·exact cF rfl (h1 w L D.size _ (d.trans m) d.1 m.1 F (JR r B))
 ·refine RZ b O (j.gD rfl (j.gD rfl (j.gD rfl (j.gD rfl (j.gD rfl ?_)))));have A:gK v ⟨none,0,0⟩ []:=⟨rfl,λi x y z E=>by simp at E⟩;refine Bm A (g.bK e) (gd.bK e) b1 b2 b3 b4 b5 (λ_ w m=>cJ rfl (h0 w (e.trans m))) (λr=>?_) λr=>?_
  ·exact absurd r aB
  ·exact absurd r aB
def Safe (H:Hw)(d:fL)(x:Int)(e:Int×Bk):Prop:=(∀j,gW H j≠some (.find e.1))/\¬((d.kd=3\/d.kd=1\/d.kd=6)/\e.1<=x/\x<e.1+e.2.2.1)
structure tv (H:Hw) (d:fL) (x:Int) (H':Hw):Prop where
 hi:∃held s0,HI H' held s0
 kp:Qf H' H
 fx:∀e∈H.live,Safe H d x e->e∈H'.live/\(∀w:Nat,e.1<=((8*w:Nat):Int)->((8*w:Nat):Int)<e.1+e.2.2.1->H'.sp.wd w=H.sp.wd w)/\∀j,gW H' j≠some (.find e.1)
theorem tv.op (h:HI H held s0){d:fL}{x:Int}(o:iR H H')(hl:∀e∈H.live,Safe H d x e->e∈H'.live):tv H d x H':=
 ⟨o.hi,o.kp,λe a b=>⟨hl e a b,h.kl o.ks e a,λj=>by rw[o.ph];exact b.1 j⟩⟩
theorem tv.ar {d:fL}{x:Int}(o:iM H H'):tv H d x H':=
 ⟨o.hi,o.kp,λe a b=>⟨by rw[o.live];exact a,o.kl e a,λj=>by unfold gW;rw[o.bS];exact b.1 j⟩⟩
theorem HI.iQ (h:HI H held s0){e:Int×Bk}(he:e∈H.live):8<=e.2.2.1/\0<=e.1/\e.1%8=0/\e.2.2.1%8=0/\e.1+e.2.2.1<=270000:=by
 obtain⟨_,p,d,z,G,K,F,_⟩:=h.lv e he;have B:=h.AQ.size_pos d;have C:=h.AQ.kj d;obtain⟨A,u,hd⟩:=h.AQ.hf p d;have J:p.addr%8=0:=by
  rcases hd with⟨_,_,r,hr,c2,c3⟩|⟨j,c,c1,c2,c3,c4,_⟩
  ·omega
  ·obtain⟨a,y,b,w⟩:=c4;have:a=c:=Option.some.inj (b.1.symm.trans c2);subst this;have m:=(h.AQ.ga _ A u).cC j a y b;obtain⟨l,s,i,D,E,e,_⟩:=(VT m).1 w;have g:=m.ok;unfold bX.ok at g;unfold at_ at e;have x:a.size=8*(a.size/8):=by omega
   have:i*a.size=8*(i*(a.size/8)):=by rw[Nat.mul_left_comm,←x]
   omega
 omega
theorem tv.free (h:HI H held s0){d:fL}{x thread e:Int}(hd:d.kd=1)(o:iR H H')(hf:tZ H thread x H' e):tv H d x H':=by
 refine tv.op h o λi a g=>?_;have j:=h.iQ a;rcases hf with⟨_,h2,_⟩|⟨_,_,_,h4⟩|⟨_,b,_,_,h4⟩
 ·rw[h2];exact a
 ·rw[h4];exact a
 ·rw[h4];refine Co.2 ⟨a,λm=>g.2 ⟨.inr (.inl hd),O,O⟩⟩
end Go.Ar
namespace Go.Ar
open Go Go.Vc Go.Proofs
variable {σ w w':Hp}{F P Q X:Rg}{L:dP}{H H':Hw}{held:List Pc}{s0:Sp}{t n:Nat}{g:Th}
structure jY (σ0 σ:Hp) (L:dP) (H:Hw) (held:List Pc) (s0:Sp) (P Q:Rg) (addrs:Sl) (ad:List Int):Prop where
 e:bO σ0 σ
 h:HH σ P L H
 hi:HI H held s0
 cf:mI H
 pg:H.cf.aF<=128
 pP:∀b,P b->σ0.size<=b/\b<σ.size
 pQ:∀b,Q b->σ0.size<=b/\b<σ.size/\¬P b
 row:bR addrs 1 (Wv ad) σ Q
 al:ad.length<=60
 g0:jh (λb=>σ0.size<=b)/\¬σ0.size<=1
variable {σ0:Hp}{addrs:Sl}{ad:List Int}
theorem jY.out (p:jY σ0 σ L H held s0 P Q addrs ad){T:Rg}(e:Ext T σ w)(hT:∀b,b<σ.size->T b->¬P b/\¬Q b/\σ0.size<=b):jY σ0 w L H held s0 P Q addrs ad:=by
 have r:=e.1;have g:Ext (λb=>T b/\b<σ.size) σ w:=⟨e.1,λb a i=>e.2 b a λd=>i ⟨d,a⟩⟩;refine⟨Ext.fE p.e g λb a=>.inr (hT b a.2 a.1).2.2,p.h.bU g (λb a m d=>(hT b a d.1).1 m) (λb a=>?_) (λa=>?_),p.hi,p.cf,p.pg,λb a=>⟨(p.pP b a).1,by have:=(p.pP b a).2;omega⟩,λb a=>⟨(p.pQ b a).1,by have:=(p.pQ b a).2.1;omega,(p.pQ b a).2.2⟩,aI.bU p.row g λb a j d=>(hT b a d.1).2.1 j,p.al,p.g0⟩
 ·exact p.g0.1 b (hT b a.2 a.1).2.2
 ·exact p.g0.2 (hT _ a.2 a.1).2.2
theorem χ (hr:bR addrs 1 (Wv ad) σ Q)(hl:ad.length<=1000000)(x:Int){e t:Nat}{K:Sl->Hp->Prop}(hK:∀s' w,Ext Q σ w->bR s' 1 (Wv (ad++[x])) w (λb=>Q b\/σ.size<=b/\b<w.size)->K s' w) :
 Nw (.cells #[.int .i64 x] t (0,0)) σ λn v=>App addrs 1 8 e [.int .i64 0] ⟨some n,1,1⟩ v K:=by
 have p:addrs.len=ad.length:=by have:=hr.1;simp[Wv]at this;omega
 refine bR.push (F:=λb=>Q b\/σ.size<=b) (vs:=[.int .i64 x]) (aI.mono hr λb _ a=>.inl a) (λb a=>.inr a) rfl rfl (by simp[dM]) O O λs' w j g i=>hK s' w ⟨g.1,λb a m=>g.2 b a λd=>d.elim m λd=>O⟩ ?_;have:Wv (ad++[x])=Wv ad++[.int .i64 x]:=by simp[Wv]
 rw[this];refine aI.mono (aI.cut i) λb a d=>?_;rcases d.1 with h1|h1
 ·exact .inl h1
 ·exact .inr ⟨h1,a⟩
end Go.Ar
namespace Go.Proofs
open Go.Shelf
def Tryz.il:Go.Shelf.Ren:=⟨fun|7=>67|10=>95|n=>n,fun|23=>44|26=>3|3=>76|28=>117|0=>0|27=>116|33=>152|4=>4|n=>n,fun|n=>n⟩
theorem Tryz.lV:Go.Proofs.SlLaysZI.n7 Tryz.prog Tryz.il:={
 mixed:=by kernel_rfl
 f7:=⟨Tryz.f67.name,by decide,Tryz.func67.trans (congrArg some (by kernel_rfl))⟩
 f10:=⟨Tryz.f95.name,by decide,Tryz.func95.trans (congrArg some (by kernel_rfl))⟩
 t0:=Tryz.underlying0
 a0:=Tryz.isAgg0
 z0:=Tryz.sizeOf0
 v0:=Tryz.zeroValue0
 t4:=Tryz.underlying4
 a4:=Tryz.isAgg4
 z4:=Tryz.sizeOf4
 v4:=Tryz.zeroValue4
 t23:=Tryz.underlying44
 a23:=Tryz.isAgg44
 z23:=Tryz.sizeOf44
 v23:=Tryz.zeroValue44
 t26:=Tryz.underlying3
 a26:=Tryz.isAgg3
 z26:=Tryz.sizeOf3
 v26:=Tryz.zeroValue3
 t27:=Tryz.underlying116
 a27:=Tryz.isAgg116
 z27:=Tryz.sizeOf116
 v27:=Tryz.zeroValue116
 t28:=Tryz.underlying117
 a28:=Tryz.isAgg117
 z28:=Tryz.sizeOf117
 v28:=Tryz.zeroValue117
 t33:=Tryz.underlying152
 a33:=Tryz.isAgg152
 z33:=Tryz.sizeOf152
 v33:=Tryz.zeroValue152}
end Go.Proofs
namespace Go.Ar
open Go Go.Vc Go.Proofs Go.RowKit Go.Maps Go.Sort Go.Shelf
open Go.Vc (bV dE cT)
open Go.Bu (oc EM Gy EL Hi Lg)
variable {σ w w':Hp}{F P Q X S:Rg}{L:dP}{H H':Hw}{held:List Pc}{s0 sp:Sp}{t n:Nat}{g:Th}{σ0:Hp}
def GU:Nat:=Tryz.il.f 10
def Ca:Nat:=Tryz.il.t 23
theorem N4 (m:Option Nat){R:Fv->Hp->Prop}(hR:R ⟨GU,#[],#[.pointer (some ⟨σ.size,0,none⟩)]⟩ (σ.push (.cells #[.map m] Ca (0,0)))) :
 ZU.c m σ R:=by
 rintro w rfl;refine(callsIn_wide.1 (AnyZI.keys_in Tryz.lV Fence.wide 5 trivial rfl m w)).mono ?_;rintro e a ⟨rfl,rfl⟩;exact⟨⟨rfl,rfl,rfl,sZ (by show _<(w.heap.push _).size;simp)⟩,[.func (.func GU) #[] #[.pointer (some ⟨w.heap.size,0,none⟩)]],rfl,⟨GU,#[],#[.pointer (some ⟨w.heap.size,0,none⟩)]⟩,rfl,hR⟩
theorem Pa {w:World}{c m:Nat}{B:List (Int×Bk)}(hc:cell w.heap ⟨c,0,none⟩=some (.map (some m)))(hm:dN w.heap m .i64 (.ag 4) B)(hb:∀x∈B,Go.Bu.lP x.1)(hs:B.length<=1000000)(n:Nat)(hn:1<=n) :
 SeqGives Fence.wide n Tryz.prog GU #[.pointer (some ⟨c,0,none⟩)] encZ (λss=>ss.Perm (B.map (·.1))) B.length w:=by
 obtain⟨D,j,p,a⟩:=Hi (P:=Tryz.prog) Tryz.lV.t26 hm hb hs;have b:c<w.heap.size:=by
  unfold cell at hc;split at hc
  ·rename_i h;exact(mT.1 h).1
  ·cases hc
 have:=AnyZI.keys_gives (ρ:=Tryz.il) {Tryz.lV with} Fence.wide n trivial rfl hn c m B.length D w b hc j;intro l J W hW hJ hY h0;rw[a]at this;refine(this l J W hW hJ hY h0).mono ?_;rintro e W' ⟨i,ss,d,g⟩;exact⟨i,ss,d.trans p,g⟩
theorem WgV {c m:Nat}{B:List (Int×Bk)}(hc:cell σ ⟨c,0,none⟩=some (.map (some m)))(hm:dN σ m .i64 (.ag 4) B)(hb:∀x∈B,Go.Bu.lP x.1)(hs:B.length<=1000000){R:Sl->Hp->Prop}
 (hR:∀(s:Sl) (σ':Hp) (ss:List Int),bO σ σ'->ss.Perm (B.map (·.1))->ss.Pairwise (· <= ·)->oc σ.size σ' s (ss.map (Value.int .i64))->R s σ') :
 VS.c ⟨GU,#[],#[.pointer (some ⟨c,0,none⟩)]⟩ σ R:=by
 rintro w rfl;have i:=Pa hc hm hb hs 2 O;have j:B.length<=maxLen:=by unfold maxLen;omega
 have z:=AnyZI.sorted_in Tryz.re Fence.wide 5 trivial trivial trivial trivial rfl O (Lg _) (Tryz.pH.f5.enters rfl) GU #[.pointer (some ⟨c,0,none⟩)] trivial (Tryz.lV.f10.enters rfl) _ _ j O _ i;refine(callsIn_wide.1 z).mono ?_;rintro e C ⟨v,ss,rfl,u,d,r,g⟩;obtain⟨s,rfl,p⟩:=EM d;refine⟨EL g,[.slice s.a s.len s.cap],rfl,s,rfl,?_⟩;refine hR s _ (ss.mergeSort λx y=>decide (x<=y)) (Gy g) ((List.mergeSort_perm _ _).trans u) ?_ p;have:=List.pairwise_mergeSort (le:=λx y:Int=>decide (x<=y)) (λa b c A D=>by simp at *;omega) (λa b=>by simp;omega) ss;exact this.imp (λh=>by simpa using h)
def mZ (b:Bk):List Value:=[.int .i64 b.1,.int .i64 b.2.1,.int .i64 b.2.2.1,.int .i64 b.2.2.2]
def ja (bs:List Bk):List Value:=bs.flatMap mZ
theorem HY (bs:List Bk):(ja bs).length=bs.length*4:=by
 unfold ja
 induction bs with
 | nil=>rfl
 | cons b bs ih=>rw[mM,zJ,ih];simp[mZ];omega
theorem Dz:∀{bs:List Bk} {i:Nat} {b:Bk},bs[i]?=some b->∀{j:Nat} {v:Value},(mZ b)[j]?=some v->(ja bs)[4*i+j]?=some v
 | [],i,b,h,_,_,_=>by simp at h
 | a::bs,0,b,h,j,v,hv=>by
  simp only[vG,Option.some.injEq]at h;subst h;have hj:=(cS.1 hv).1;show(mZ a++ja bs)[4*0+j]?=_;rw[show 4*0+j=j by omega,zg hj];exact hv
 | a::bs,i+1,b,h,j,v,hv=>by
  have d:=Dz (bs:=bs) (i:=i) (b:=b) (by simpa using h) hv;show(mZ a++ja bs)[4*(i+1)+j]?=_;rw[zi (by simp[mZ];omega)];have:4*(i+1)+j-(mZ a).length=4*i+j:=by simp[mZ];omega
  rw[this];exact d
structure jG (live:List (Int×Bk)) (bs:List Bk):Prop where
 len:bs.length=live.length
 mem:∀b,b∈bs↔(b.1,b)∈live
 lp:bs.Pairwise λa b=>a.1<b.1
theorem HI.iP (h:HI H held s0):H.live.length<=1000000:=by
 have s:(H.live.map λe=>e.1.toNat).Nodup:=by
  have g:=zy.1 h.lk;refine zy.2 λi j r m d e=>?_;have a:i<H.live.length:=by simpa using r
  have b:j<H.live.length:=by simpa using m
  refine g i j (by simpa using a) (by simpa using b) d ?_;simp only[sF]at e ⊢;have w:=(h.iQ (zd a)).2.1;have z:=(h.iQ (zd b)).2.1;omega
 have:=EN 270000 _ s λx u=>by
  obtain⟨e,p,rfl⟩:=zD.1 u;have:=h.iQ p;omega
 have y:(H.live.map λe=>e.1.toNat).length=H.live.length:=by simp
 omega
theorem cP.uJ {B:Nat}{s:Sl}{xs:List Value}(h:oc B σ s xs):cP s 1 xs σ (λb=>B<=b):=by
 refine⟨by have:=h.1;omega,?_⟩;rcases h.2 with⟨h0,_⟩|⟨b,cs,hb,ha,hk,hc⟩
 ·exact .inl h0
 ·exact .inr ⟨b,0,cs,hb,ha,hk.q,λj a=>by rw[zG];exact hc j a⟩
set_option maxRecDepth 8000 in
theorem EK (h:HH σ F L H)(hi:HI H held s0){R:Sl->Hp->Prop}(hR:∀s σ' bs,bO σ σ'->jG H.live bs->bR s 4 (ja bs) σ' (λb=>σ.size<=b)->R s σ'):Y5.c (aW L.p) σ R:=by
 refine Y5.o ?_;have D:∀x∈H.live,Go.Bu.lP x.1:=λx g=>by have:=hi.iQ g;unfold Go.Bu.lP;omega
 have N:=hi.iP;refine Kw h (cF rfl (aG (h.hd.rM rfl (N4 _ ?_))));have e1:bO σ (σ.push (.cells #[.map (some L.lm)] Ca (0,0))):=Ext.push _ _ _;have J:=h.bK e1;refine WgV (by unfold cell;simp) J.j0 D N λs y ss U G B hs=>?_;have Q:=e1.trans U;have C:=cP.uJ hs;have S:ss.Nodup:=G.nodup_iff.2 hi.lk;have u:ss.length=H.live.length:=by rw[G.length_eq];simp
 have hsl:s.len=ss.length:=by have:=C.1;simp at this;omega
 have E:∀x∈ss,∃b,bV H.live x=some b/\b.1=x:=λx g=>by
  obtain⟨e,he,rfl⟩:=zD.1 (G.mem_iff.1 g);exact⟨e.2,Vm hi.lk he,(hi.lv e he).1⟩
 let f:Int->Bk:=λx=>(bV H.live x).getD (0,0,0,0)
 have r:∀x∈ss,(f x).1=x/\bV H.live x=some (f x):=λx g=>by
  obtain⟨b,d,P⟩:=E x g;have:f x=b:=by show(bV H.live x).getD _=b;rw[d];rfl
  rw[this];exact⟨P,d⟩
 have hz1:σ.size<y.size:=by
  have J:=U.1;have h2:(σ.push (.cells #[.map (some L.lm)] Ca (0,0))).size=σ.size+1:=by simp
  omega
 refine Kh (a:=.s) (bb:=bN) (λ(out:Sl) (z:Int) w=>∃i:Nat,z=i/\i<=ss.length/\bO y w/\bR out 4 (ja ((ss.take i).map f)) w (λb=>y.size<=b)) (λ_ z _=>ss.length-z.toNat) ⟨0,rfl,O,Ext.refl _ _,⟨by simp[ja],.inl ⟨rfl,rfl⟩⟩⟩ ?_;rintro(out:Sl) (z:Int) w ⟨i,rfl,hil,ew,hr⟩;have Y:=J.bK (U.trans ew);refine cH (λA=>?_) λhge=>?_
 ·have g:ss[i]?=some (ss[i]' O):=cL _;have hol:out.len=i:=by have:=hr.1;rw[HY]at this;simp at this;omega
  refine(aH.bK (aH.cut C) ew).qc g (aG (Y.hd.rM rfl ⟨H.live,Y.j0,?_⟩));refine hr.push (F:=λb=>y.size<=b) (vs:=mZ (f (ss[i]' O))) (λb d=>by have:=ew.1;omega) rfl rfl (by simp[mZ,dM]) O O λs' w' X V W=>?_;have e3:bO y w':=Ext.fresh ew V λb d=>d;refine bZ (m:=i+1) O O ⟨⟨i+1,rfl,O,e3,?_⟩,O⟩;have:ja ((ss.take (i+1)).map f)=ja ((ss.take i).map f)++mZ (f (ss[i]' O)):=by
   unfold ja;rw[zf,g,kQ,CW];simp only[uy,zK,qz,mM,List.flatMap_nil,km]
  rw[this];exact W
 ·have M:i=ss.length:=by omega
  subst M;rw[zm]at hr;refine hR out w (ss.map f) (Q.trans ew) ⟨by simp[u],λb=>?_,?_⟩ (aI.mono hr λb _ d=>by
   show σ.size<=b;have d:y.size<=b:=d;omega)
  ·constructor
   ·intro d;obtain⟨x,g,rfl⟩:=zD.1 d;obtain⟨q1,q2⟩:=r x g;rw[q1];exact KK q2
   ·intro d;have g:b.1∈ss:=G.mem_iff.2 (zD.2 ⟨_,d,rfl⟩);refine zD.2 ⟨b.1,g,?_⟩;have:=(r _ g).2;rw[Vm hi.lk d]at this;exact(Option.some.inj this).symm
  ·rw[rK];have A:ss.Pairwise (· < ·):=(B.and S).imp λ⟨J,h2⟩=>by
    have:_≠_:=h2;omega
   refine zy.2 λi j hi Z K=>?_;rw[(r _ (zd hi)).1,(r _ (zd Z)).1];exact zy.1 A i j hi Z K
theorem DM {s:Sl}{bs:List Bk}(hs:cP s 4 (ja bs) σ F){i:Nat}{b:Bk}(hb:bs[i]?=some b){K:Addr->Prop}(hK:∀bb o,(∀(j:Nat) v,(mZ b)[j]?=some v->cell σ ⟨bb,o+j,none⟩=some v)->K ⟨bb,o,none⟩):Ix s.a s.len (i:Int) 4 K:=by
 have m:=(cS.1 hb).1;have x:s.len=bs.length:=by have:=hs.1;rw[HY]at this;omega
 obtain⟨bb,o,e,r⟩:=hs.cell (Dz hb (j:=0) rfl);rw[e];refine ix O O ?_;rw[add_lit,dC];refine hK bb _ λj v g=>?_;obtain⟨w,u,d,p⟩:=hs.cell (Dz hb g);rw[e]at d;cases d;rw[←p];congr 2;omega
end Go.Ar
namespace Go.Ar
open Go.Bu (iX)
variable {W:Wd}{k:Nat}{A:AR}
def AE {α:Type}(f:bX->α->Nat)(tb:List bX)(l:List α)(j:Nat):Nat:=match tb[j]?,l[j]? with
 | some c,some a=>f c a
 | _,_=>0
theorem N6 {α:Type}{f:bX->α->Nat}{tb:List bX}{l:List α}{j:Nat}{c:bX}{a:α}(h1:tb[j]?=some c)(h2:l[j]?=some a):AE f tb l j=f c a:=by unfold AE;rw[h1,h2]
theorem Jh {α:Type}(f:bX->α->Nat):∀(tb:List bX) (l:List α),l.length=tb.length->((tb.zip l).map λx=>f x.1 x.2).sum=((List.range tb.length).map (AE f tb l)).sum
 | [],l,h=>by simp
 | c::tb,[],h=>by simp at h
 | c::tb,a::l,h=>by
  have ih:=Jh f tb l (by simpa using h);rw[Ek,zK,zu,ih,zQ,AB,zK,zu,kP];rfl
def qU (c:bX)(ss:List cI):List Nat:=ss.flatMap λs=>(List.range c.aF).map (s.st + ·)
theorem Rl (c:bX)(ss:List cI):(qU c ss).length=ss.length*c.aF:=by
 induction ss with
 | nil=>simp[qU]
 | cons s ss ih=>
  have e:qU c (s::ss)=(List.range c.aF).map (s.st + ·)++qU c ss:=rfl;rw[e,zJ,ih];simp[zl];omega
theorem Dv {c:bX}{ss:List cI}{p:Nat}:p∈qU c ss↔sB c ss p:=by
 simp only[qU,rJ,zD,zW,sB];constructor
 ·rintro⟨s,hs,i,hi,rfl⟩;exact⟨s,hs,O,O⟩
 ·rintro⟨s,hs,h1,h2⟩;exact⟨s,hs,p-s.st,O,O⟩
theorem OH {c:bX}{ss:List cI}(h:ss.Pairwise λa b=>a.st+c.aF<=b.st):(qU c ss).Nodup:=by
 induction ss with
 | nil=>exact rz
 | cons s ss ih=>
  have g:=mA.1 h;have e:qU c (s::ss)=(List.range c.aF).map (s.st + ·)++qU c ss:=rfl;rw[e,oO];refine⟨?_,ih g.2,λa j b m e=>?_⟩
  ·exact List.Pairwise.map (R:=(· ≠ ·)) _ (λa b d e=>d O) xB
  ·subst e;obtain⟨i,p,rfl⟩:=zD.1 j;obtain⟨t,r,u,w⟩:=Dv.1 m;have:=g.1 t r;have:=zW.1 p;omega
def sX (l:List (Nat×Nat)):List Nat:=l.flatMap λr=>(List.range r.2).map (r.1 + ·)
theorem PA (l:List (Nat×Nat)):(sX l).length=(l.map (·.2)).sum:=by
 induction l with
 | nil=>rfl
 | cons r l ih=>
  have e:sX (r::l)=(List.range r.2).map (r.1 + ·)++sX l:=rfl;rw[e,zJ,ih];simp
theorem Bd {l:List (Nat×Nat)}{p:Nat}:p∈sX l↔gH l p:=by
 simp only[sX,rJ,zD,zW,gH];constructor
 ·rintro⟨s,hs,i,hi,rfl⟩;exact⟨s,hs,O,O⟩
 ·rintro⟨s,hs,h1,h2⟩;exact⟨s,hs,p-s.1,O,O⟩
theorem SV {l:List (Nat×Nat)}(h:l.Pairwise λa b=>a.1+a.2<=b.1\/b.1+b.2<=a.1):(sX l).Nodup:=by
 induction l with
 | nil=>exact rz
 | cons s ss ih=>
  have g:=mA.1 h;have e:sX (s::ss)=(List.range s.2).map (s.1 + ·)++sX ss:=rfl;rw[e,oO];refine⟨?_,ih g.2,λa j b m e=>?_⟩
  ·exact List.Pairwise.map (R:=(· ≠ ·)) _ (λa b d e=>d O) xB
  ·subst e;obtain⟨i,p,rfl⟩:=zD.1 j;obtain⟨t,r,u,w⟩:=Bd.1 m;have:=g.1 t r;have:=zW.1 p;omega
theorem IN {n:Nat}{l:List Nat}(hn:l.Nodup)(hl:∀x∈l,x<n){f:Nat->Bool}(hf:∀p,p<n->(f p=true↔p∈l)):(List.range n).countP f=l.length:=by
 rw[wW];refine List.Perm.length_eq ?_;rw[xo (List.nodup_range.filter _) hn];intro x;rw[zH,zW];exact⟨λ⟨a,b⟩=>(hf x a).1 b,λd=>⟨hl x d,(hf x (hl x d)).2 d⟩⟩
theorem Od (ga:GA A):Up A+Uq A+iX A.n A.S=(List.range A.n).countP λ(p:Nat)=>UZ A (p:Int):=by
 have key:∀m,m<=A.tb.length->(List.range A.n).countP (λp=>A.ow p != 0&&decide (A.ow p<=m))=((List.range m).map (AE (λc d=>d.length*c.aF) A.tb A.cC)).sum:=by
  intro m
  induction m with
  | zero=>
   intro _;simp
  | succ m ih=>
   intro hm;rw[zw,kQ,uh,←ih O,List.map_singleton,List.sum_singleton];obtain⟨c,d,t,g,_⟩:=ga.cl (k:=m) O;have D:=ga.cC m c d g;rw[N6 g.1 g.2,←Rl c d,←IN (n:=A.n) (OH D.sJ) (λx b=>by
    obtain⟨s,i,a,e⟩:=Dv.1 b;exact ga.pg.lt (by rw[(ga.used g i a e).1];omega)) (f:=λp=>A.ow p==m+1) (λp _=>by rw[Dv,←ga.ow m c d g p];simp)]
   symm
   apply Go.Bu.ir;intro p _;by_cases a:A.ow p=m+1
   ·simp[a]
   ·by_cases e:A.ow p<=m
    ·have:(A.ow p==m+1)=false:=by simpa using a
     have y:decide (A.ow p<=m+1)=true:=by simp;omega
     simp[this,e,y]
    ·have:(A.ow p==m+1)=false:=by simpa using a
     have y:¬A.ow p<=m+1:=by omega
     simp[this,e,y]
 have K:=key A.tb.length (zC _);have L:Up A=(List.range A.n).countP (λp=>A.ow p != 0&&decide (A.ow p<=A.tb.length)):=by
  rw[K];unfold Up;rw[Jh (λc d=>d.length*c.aF) A.tb A.cC ga.lc]
 have E:Uq A=(List.range A.n).countP (λp=>A.ow p==41):=by
  unfold Uq;rw[←PA,IN (SV ga.jV) (λx b=>by
   obtain⟨r,G,a,e⟩:=Bd.1 b;exact ga.pg.lt (by rw[(ga.jd G a e).1];omega)) (f:=λp=>A.ow p==41) (λp _=>by rw[Bd,←ga.jv];simp)]
 have H:=ga.tb;have C:(List.range A.n).countP (λp=>A.ow p != 0&&decide (A.ow p<=A.tb.length))+(List.range A.n).countP (λp=>A.ow p==41)=(List.range A.n).countP (λp=>A.ow p != 0):=by
  apply Go.Bu.ir;intro p _;rcases ga.pY p with a|a
  ·have:¬A.ow p<=A.tb.length:=by omega
   simp[a];omega
  ·have:(A.ow p==41)=false:=by simp;omega
   simp[this,a]
 have z:(List.range A.n).countP (λp=>A.ow p != 0)+(List.range A.n).countP A.S=(List.range A.n).countP λ(p:Nat)=>UZ A (p:Int):=by
  apply Go.Bu.ir;intro p _;have u:=ga.pg.us p;have i:=ga.pg.fr p;have J:UZ A (p:Int)=decide (A.f p≠0):=by
   unfold UZ AR.f gf;rw[zU (show(0:Int)<=p by omega),r8,dC]
  rw[J];have B:=ga.pg.le p;by_cases h0:A.f p=0
  ·have:A.ow p=0:=Classical.byContradiction λw=>by have:=u.2 w;omega
   have j:A.S p=false:=by apply mn.2;intro b;have:=i.1 b;omega
   simp[h0,this,j]
  ·by_cases a:A.f p=1
   ·have F:=u.1 a;have j:A.S p=false:=by apply mn.2;intro b;have:=i.1 b;omega
    simp[a,F,j]
   ·have:A.ow p=0:=Classical.byContradiction λw=>a (u.2 w);have j:A.S p=true:=i.2 O;simp[h0,this,j]
 unfold iX;rw[L,E,C,z]
theorem Dp (ga:GA A):Uq A<=1024:=by
 have b:=Od ga;have a:(List.range A.n).countP (λ(p:Nat)=>UZ A (p:Int))<=A.n:=by
  refine zI uR ?_;rw[oW];exact zC _
 have:=ga.pg.n2;omega
end Go.Ar
namespace Go.Ar
open Go Go.Vc Go.Proofs
open Go.Vc (bV dE cT)
open Go.Bu (iX)
variable {σ v w w':Hp}{F P Q X:Rg}{L:dP}{H H':Hw}{held:List Pc}{s0:Sp}{t n:Nat}{g:Th}{nb sb m:Nat}{x:List Int}
def mq (b:Bk):Int:=if 0<=b.2.2.1 then b.2.1 else 0
def Hr (l:List (Int×Bk)):Int:=(l.map λe=>mq e.2).sum
def Ua (H:Hw):Nat:=(H.bS.map λg=>QB H.tb g.ls).sum
def Vn (f:AR->Nat)(H:Hw):Nat:=(H.bT.map f).sum
def VA (A:AR):Nat:=iX A.n A.S
theorem JE {α:Type}(f:α->Int):∀{l:List (Int×α)} {n:Int} {x:α},(l.map (·.1)).Nodup->(n,x)∈l->(l.map λe=>f e.2).sum=f x+((l.filter λy=>!(y.1==n)).map λe=>f e.2).sum
 | [],_,_,_,h=>by simp at h
 | y::l,n,x,hn,h=>by
  simp only[zK,zo]at hn;rcases zT.1 h with h1|h1
  ·subst h1;have:l.filter (λy=>!(y.1==n))=l:=by
    rw[ov];intro z hz;have:z.1≠n:=λe=>hn.1 (zD.2 ⟨z,hz,e⟩);simpa using this
   rw[tx aA,this];simp
  ·have a:y.1≠n:=λe=>hn.1 (zD.2 ⟨_,h1,e.symm⟩);rw[uz (by simpa using a)];simp only[zK,zu];rw[JE f hn.2 h1];omega
theorem U8 {α:Type}{f:α->Int}{c:Int}:∀{l:List α},(∀e∈l,0<=f e/\f e<=c)->0<=(l.map f).sum/\(l.map f).sum<=l.length*c
 | [],_=>by simp
 | a::l,h=>by
  have h1:=h a lB;have d:=U8 λe b=>h e (lz _ b);simp only[zK,zu,zQ,Int.natCast_add,Int.add_mul];omega
theorem Du (hi:HI H held s0){e:Int×Bk}(he:e∈H.live):0<=mq e.2/\mq e.2<=270000:=by
 have:=hi.iQ he;unfold mq;split<;>omega
theorem Ly {α:Type}(f:α->Nat){l:List α}{i:Nat}{a:α}(h:l[i]?=some a):((l.take (i+1)).map f).sum=((l.take i).map f).sum+f a:=by
 rw[zf,h];simp
theorem Sm {α:Type}{f:α->Nat}{c:Nat}{l:List α}(h:∀a∈l,f a<=c):(l.map f).sum<=l.length*c:=by
 induction l with
 | nil=>simp
 | cons a l ih=>
  have d:=h a lB;have g:=ih λe b=>h e (lz _ b);simp only[zK,zu,zQ,zl];omega
theorem Pk {α:Type}{f:α->Nat}{c:Nat}{l:List α}(h:∀a∈l,f a<=c)(i:Nat):((l.take i).map f).sum<=i*c:=
 zI (Sm λa b=>h a (m7 b)) (lS c (by rw[zO];omega))
def V8:List Value:=[.int .i64 0,.int .i64 0,.int .i64 0,.int .i64 0,.int .i64 0,.int .i64 0,.int .i64 0,.int .i64 0,.int .i64 0,.int .i64 0,.int .i64 0]
structure lT (σ:Hp) (nb sb:Nat) (v:Hp) (x:List Int):Prop where
 e:bO σ v
 n:bW v nb V8
 s:bW v sb (x.map (Value.int .i64))
 h1:σ.size<=nb
 h2:σ.size<=sb
 h3:nb≠sb
 hl:x.length=11
theorem lT.fr (h:lT σ nb sb v x)(e:bO v w):lT σ nb sb w x:=⟨h.e.trans e,e.cA h.n id,e.cA h.s id,h.h1,h.h2,h.h3,h.hl⟩
theorem lT.own (h:lT σ nb sb v x)(o:QJ v w m)(h4:v.size<=m\/m≠nb/\m≠sb/\σ.size<=m):lT σ nb sb w x:=by
 have j:=h.n.lt;have d:=h.s.lt;have b:=h.e.1;exact⟨Ext.fresh h.e o.ext λi (g:i=m)=>O,o.ext.cA h.n λ(a:nb=m)=>O,o.ext.cA h.s λ(a:sb=m)=>O,h.h1,h.h2,h.h3,h.hl⟩
theorem lT.rd (h:lT σ nb sb v x){i:Nat}{y:Int}(hy:x[i]?=some y){K:Int->Prop}(hK:K y):eW .i64 (Addr.add ⟨sb,0,none⟩ i) v K:=
 h.s.rI (by rw[zG,ze,hy];rfl) hK
theorem lT.st (h:lT σ nb sb v x){i:Nat}{y:Int}(hi:i<11){K:aP}(hK:∀w,Ext (· = sb) v w->lT σ nb sb w (x.set i y)->K w):dG (Addr.add ⟨sb,0,none⟩ i) (.int .i64 y) v K:=by
 have hl:=h.hl;refine h.s.s1 (by rw[za];omega) λw o b=>hK w o.ext ⟨Ext.fresh h.e o.ext λi (hi:i=sb)=>by have:=h.h2;omega,o.ext.cA h.n λ(a:nb=sb)=>h.h3 a,?_,h.h1,h.h2,h.h3,by rw[nM,hl]⟩;rw[zG,←uj]at b;exact b
theorem ο {K:eJ [.ad]}{body:eJ [.ad]->Prop}(P:Addr->Hp->Prop)(h1:∀r w,P r w->K r w)(h2:∀J:eJ [.ad],(∀r w,P r w->J r w)->body J):Jn [.ad] K body:=Jn.intro (h2 K h1)
theorem im.rf {s:Sl}(h:im s [] σ F):s.len=0:=by have:=h.len;simpa using this
theorem HH.Na (h:HH σ F L H){x:eH}(hx:L.ts[t]?=some x)(hg:H.bS[t]?=some g):im x.h g.bP σ F:=by
 obtain⟨G,d,a⟩:=h.sep.get (.hn t);simp only[CH,hx,hg,qb]at a;exact dR.mono (im.loc _ _) a λb _ a=>d b a
theorem HH.R6 (h:HH σ F L H){x:eH}(hx:L.ts[t]?=some x)(hg:H.bS[t]?=some g):eC σ F x.c H.tb H.cf.dB g.ls:=by
 obtain⟨G,d,a⟩:=h.sep.get (.ca t);simp only[CH,hx,hg,qI]at a;exact dR.mono eC.loc a λb _ a=>d b a
theorem CL {A:AR}(ga:GA A):VA A<=1024:=by
 have a:VA A<=A.n:=by
  unfold VA iX;refine zI uR ?_;rw[oW];exact zC _
 have:=ga.pg.n2;omega
theorem lT.Tb (h:lT σ nb sb v x){i:Nat}{y:Int}(hy:x[i]?=some y){K:Int->Prop}(hK:K y):gT (λm=>bO v m) bN (Addr.add ⟨sb,0,none⟩ i) K:=
 ⟨y,λm a=>by rw[add_lit,(Ext.cA a h.s id).cell,zG,ze,hy];rfl,hK⟩
theorem bW.rH {b i:Nat}{cs:List Value}{c:CK}{y:c.T}(hb:bW v b cs)(hc:cs[i]?=some (c.v y)){K:c.T->Prop}(hK:K y):gT (λm=>bO v m) c (Addr.add ⟨b,0,none⟩ i) K:=
 ⟨y,λm a=>by rw[add_lit,(Ext.cA a hb id).cell,zG];exact hc,hK⟩
theorem uc {b:Nat}(hb:bW v b V8)(a0 a1 a2 a3 a4 a5 a6 a7 a8 a9 a10:Int){K:aP}(hK:∀w,Ext (· = b) v w->bW w b ([a0,a1,a2,a3,a4,a5,a6,a7,a8,a9,a10].map (Value.int .i64))->K w) :
 dG (Addr.add ⟨b,0,none⟩ 0) (.int .i64 a0) v λv57=>dG (Addr.add ⟨b,0,none⟩ 1) (.int .i64 a1) v57 λv58=>dG (Addr.add ⟨b,0,none⟩ 2) (.int .i64 a2) v58 λv59=>dG (Addr.add ⟨b,0,none⟩ 3) (.int .i64 a3) v59 λv60=>
 dG (Addr.add ⟨b,0,none⟩ 4) (.int .i64 a4) v60 λv61=>dG (Addr.add ⟨b,0,none⟩ 5) (.int .i64 a5) v61 λv62=>dG (Addr.add ⟨b,0,none⟩ 6) (.int .i64 a6) v62 λv63=>dG (Addr.add ⟨b,0,none⟩ 7) (.int .i64 a7) v63 λv64=>
 dG (Addr.add ⟨b,0,none⟩ 8) (.int .i64 a8) v64 λv65=>dG (Addr.add ⟨b,0,none⟩ 9) (.int .i64 a9) v65 λv66=>dG (Addr.add ⟨b,0,none⟩ 10) (.int .i64 a10) v66 K:=by
 unfold V8 at hb;refine hb.s1 aA λC o1 p=>p.s1 aA λH o2 z=>z.s1 aA λv3 o3 y=>y.s1 aA λE o4 j=>j.s1 aA λF o5 u=>u.s1 aA λA o6 r=>r.s1 aA λB o7 m=>m.s1 aA λD o8 i=>i.s1 aA λG o9 s=>s.s1 aA λx fW a=>a.s1 aA λg d e=>?_;exact hK g ((((((((((o1.ext.trans o2.ext).trans o3.ext).trans o4.ext).trans o5.ext).trans o6.ext).trans o7.ext).trans o8.ext).trans o9.ext).trans fW.ext).trans d.ext) e
theorem lT.fin {a0 a1 a2 a3 a4 a5 a6 a7 a8 a9 a10:Int}(B:lT σ nb sb v [a0,a1,a2,a3,a4,a5,a6,a7,a8,a9,a10]){R:Int->Int->Int->Int->Int->Int->Int->Int->Int->Int->Int->Hp->Prop}(hR:∀w,bO σ w->R a0 a1 a2 a3 a4 a5 a6 a7 a8 a9 a10 w) :
 eW .i64 (Addr.add ⟨sb,0,none⟩ 0) v λt0=>eW .i64 (Addr.add ⟨sb,0,none⟩ 1) v λt1=>eW .i64 (Addr.add ⟨sb,0,none⟩ 2) v λt2=>eW .i64 (Addr.add ⟨sb,0,none⟩ 3) v λt3=>eW .i64 (Addr.add ⟨sb,0,none⟩ 4) v λt4=>
 eW .i64 (Addr.add ⟨sb,0,none⟩ 5) v λt5=>eW .i64 (Addr.add ⟨sb,0,none⟩ 6) v λt6=>eW .i64 (Addr.add ⟨sb,0,none⟩ 7) v λt7=>eW .i64 (Addr.add ⟨sb,0,none⟩ 8) v λt8=>eW .i64 (Addr.add ⟨sb,0,none⟩ 9) v λt9=>eW .i64 (Addr.add ⟨sb,0,none⟩ 10) v λt10=>
 dG (Addr.add ⟨nb,0,none⟩ 0) (.int .i64 t0) v λv57=>dG (Addr.add ⟨nb,0,none⟩ 1) (.int .i64 t1) v57 λv58=>dG (Addr.add ⟨nb,0,none⟩ 2) (.int .i64 t2) v58 λv59=>dG (Addr.add ⟨nb,0,none⟩ 3) (.int .i64 t3) v59 λv60=>
 dG (Addr.add ⟨nb,0,none⟩ 4) (.int .i64 t4) v60 λv61=>dG (Addr.add ⟨nb,0,none⟩ 5) (.int .i64 t5) v61 λv62=>dG (Addr.add ⟨nb,0,none⟩ 6) (.int .i64 t6) v62 λv63=>dG (Addr.add ⟨nb,0,none⟩ 7) (.int .i64 t7) v63 λv64=>
 dG (Addr.add ⟨nb,0,none⟩ 8) (.int .i64 t8) v64 λv65=>dG (Addr.add ⟨nb,0,none⟩ 9) (.int .i64 t9) v65 λv66=>dG (Addr.add ⟨nb,0,none⟩ 10) (.int .i64 t10) v66 λv67=>
 eW .i64 (Addr.add ⟨nb,0,none⟩ 0) v67 λt0=>eW .i64 (Addr.add ⟨nb,0,none⟩ 1) v67 λt1=>eW .i64 (Addr.add ⟨nb,0,none⟩ 2) v67 λt2=>eW .i64 (Addr.add ⟨nb,0,none⟩ 3) v67 λt3=>eW .i64 (Addr.add ⟨nb,0,none⟩ 4) v67 λt4=>
 eW .i64 (Addr.add ⟨nb,0,none⟩ 5) v67 λt5=>eW .i64 (Addr.add ⟨nb,0,none⟩ 6) v67 λt6=>eW .i64 (Addr.add ⟨nb,0,none⟩ 7) v67 λt7=>eW .i64 (Addr.add ⟨nb,0,none⟩ 8) v67 λt8=>eW .i64 (Addr.add ⟨nb,0,none⟩ 9) v67 λt9=>eW .i64 (Addr.add ⟨nb,0,none⟩ 10) v67 λt10=>
 R t0 t1 t2 t3 t4 t5 t6 t7 t8 t9 t10 v67:=by
 refine B.rd rfl (B.rd rfl (B.rd rfl (B.rd rfl (B.rd rfl (B.rd rfl (B.rd rfl (B.rd rfl (B.rd rfl (B.rd rfl (B.rd rfl (uc B.n a0 a1 a2 a3 a4 a5 a6 a7 a8 a9 a10 λw e b=>?_)))))))))));refine b.rI rfl (b.rI rfl (b.rI rfl (b.rI rfl (b.rI rfl (b.rI rfl (b.rI rfl (b.rI rfl (b.rI rfl (b.rI rfl (b.rI rfl (hR w ?_)))))))))));exact Ext.fresh B.e e λi (a:i=nb)=>by have:=B.h1;omega
theorem HH.Ee (h:HH σ F L H){x:eH}(hx:L.ts[t]?=some x)(hg:H.bS[t]?=some g){ty:Nat}{K:Addr->Hp->Prop}(hK:∀v,bO σ v->σ.size<v.size->bW v σ.size (jO (x,g))->K ⟨σ.size,0,none⟩ v) :
 Ix L.cM.a L.cM.len (t:Int) 3 λa58=>fX (a58.add 0) σ λt59=>jB (a58.add 1) σ λt591=>wA (a58.add 2) σ λt592=>
  Nw (.cells #[.pointer none,.slice none 0 0,.nilIface] ty (0,0)) σ λn7 v17=>O1 t592<|dG (n7.add 0) (.pointer t59) v17 λv18=>dG (n7.add 1) (.slice t591.a t591.len t591.cap) v18 λv19=>dG (n7.add 2) t592 v19 λv20=>K n7 v20:=by
 obtain⟨b,o,m,w⟩:=Us h.kK hx hg (d:=0) O rfl;obtain⟨Q,o1,j,C⟩:=Us h.kK hx hg (d:=1) O rfl;obtain⟨u,o2,e,B⟩:=Us h.kK hx hg (d:=2) O rfl;rw[m]at j e;cases j;cases e;have N:=h.jA;have S:=(cS.1 hg).1;rw[m];refine ix O O ?_;rw[add_lit,show o+(t:Int).toNat*3=o+3*t by omega];refine tD (by rw[add_lit,qv];exact w) (ox (by rw[add_lit,qv];exact C) ⟨_,by rw[add_lit,qv];exact B,?_⟩);refine nw (cs:=[.pointer none,.slice none 0 0,.nilIface]) λR y D u=>?_;have E:∀{A:Prop},A->O1 (og g.ph) A:=λ{A} r=>by
  cases g.ph with
  | none=>exact r
  | some p=>cases p<;>exact r
 refine E (u.s1 aA λv3 o3 M=>M.s1 aA λP o4 z=>z.s1 aA λG o5 J=>?_);exact hK G (Ext.fresh (Ext.fresh (Ext.fresh D o3.ext λi s=>O) o4.ext λi s=>O) o5.ext λi s=>O) (by have:=o3.1;have:=o4.1;have:=o5.1;omega) J
structure wV (H:Hw):Prop where
 cache:Ua H<=20971520
 dZ:Vn Ul H<=160000000000
 room:Vn p9 H<=160000000000
 Fb:Vn UA H<=160000000000
 J7:Vn Up H<=160000000000
 runs:Vn Uq H<=4096
 free:Vn VA H<=4096
set_option maxRecDepth 16000 in
theorem Bq (h:HH σ F L H)(hi:HI H held s0)(hh:∀g∈H.bS,g.bP=[]){R:Int->Int->Int->Int->Int->Int->Int->Int->Int->Int->Int->Hp->Prop}
 (hR:∀σ',bO σ σ'->wV H->R (Hr H.live) (Ua H:Nat) 0 (Vn Ul H:Nat) (Vn p9 H:Nat) (Vn UA H:Nat) (Vn Uq H*256:Nat) (Vn Up H:Nat) (Vn VA H:Nat) (KW H.sp.st:Nat) (H.sp.st.count 2:Nat) σ'):Yf.c (aW L.p) σ R:=by
 refine Yf.o ?_;refine nw (cs:=V8) λv hz e hb=>Kw (h.bK e) (cF rfl ?_);have hv:=h.bK e;generalize hm0:((KW H.sp.st:Nat):Int)=M at hR;generalize hd0:((H.sp.st.count 2:Nat):Int)=D at hR;refine ο (λs w=>∃d,s=⟨d,0,none⟩/\lT σ σ.size d w [0,0,0,0,0,0,0,0,0,M,D]) (λs w ⟨d,hs,B⟩=>?_) λJ hJ=>?_
 ·subst hs;have hw:=h.bK B.e;have B0:=B;refine aG (hw.hd.rM rfl ?_);have hml:=hw.j0;have hll:=hi.iP;refine xP (c:=.ag 4) hml (λ(b:List (Int×Bk)) u=>∃z:Int,lT σ σ.size d u [z,0,0,0,0,0,0,0,0,M,D]/\(b.map (·.1)).Nodup/\(∀y∈b,y∈H.live)/\0<=z/\z+(b.map λe=>mq e.2).sum=Hr H.live) (λu hz eu=>⟨0,B.fr eu,hml.nodup,λy hy=>hy,O,by rw[Int.zero_add];rfl⟩) (λu ⟨z,B,_,_,_,hz⟩=>?_) ?_
  ·have hz':z=Hr H.live:=by simpa using hz
   subst hz';have hu:=h.bK B.e;have ht2:=h.s.t2;refine aG (hu.hd.rS rfl ?_);refine ZP (a:=bN) (λ(i:Int) u=>∃k:Nat,i=k/\k<=H.bS.length/\lT σ σ.size d u [Hr H.live,(((H.bS.take k).map λg=>QB H.tb g.ls).sum:Nat),0,0,0,0,0,0,0,M,D]/\((H.bS.take k).map λg=>QB H.tb g.ls).sum<=k*5242880) (λi _=>H.bS.length-i.toNat) ⟨0,rfl,O,by simpa using B,by simp⟩ ?_;rintro(i:Int) u1 ⟨k,rfl,hk,B,hsum⟩;have h1:=h.bK B.e;have htl:=h1.jA;refine cH (λU=>?_) λhge=>?_
   ·have W:k<H.bS.length:=by simp only at U;omega
    obtain⟨x,g,N,V⟩:=h1.th W;have hsb:=B.s.lt;refine h1.Ee N V λv1 e1 hlt1 b1=>?_;have B1:=B.fr e1;have h2:=h1.bK e1;have hca:=h2.R6 N V;have hby:=IJ hca hca.Iq;have hnl:=h2.Na N V;rw[hh g (zE V)]at hnl;refine⟨λm=>bO v1 m,Ext.refl _ _,B1.Tb rfl (bW.rH (c:=.p) (y:=some ⟨x.c.p,0,none⟩) b1 rfl (Bh hca λv2 e2=>⟨e2,?_⟩))⟩;have B2:=B1.fr e2;have b2:=e2.cA b1 id;have hs:=Ly (λg=>QB H.tb g.ls) V;refine bZ (m:=((H.bS.take (k+1)).map λg=>QB H.tb g.ls).sum) (by rw[hs];simp) (by rw[hs];omega) (B2.st O λv3 e3 B3=>?_);have b3:=e3.cA b2 (λ(N:u1.size=d)=>O);refine b3.rS rfl (ZP (a:=bN) (λ(c:Int) w=>w=v3/\c=0) (λ_ _=>0) ⟨rfl,rfl⟩ ?_);rintro(c:Int) w ⟨rfl,rfl⟩;refine cH (λhl=>?_) λ_=>bZ (m:=k+1) O O ⟨⟨k+1,rfl,O,B3,by rw[hs];omega⟩,O⟩;have:=hnl.rf;simp only at hl;omega
   ·have hkk:k=H.bS.length:=by simp only at hge;omega
    subst hkk;rw[zm]at B hsum;have Z:Ua H<=20971520:=by unfold Ua;omega
    have ha2:=h.s.a2;refine aG (h1.hd.rS rfl ?_);have G:∀A∈H.bT,GA A:=λA j=>by obtain⟨k,hk⟩:=zL j;exact hi.wi.ga k A hk
    let P (f:AR->Nat) (k:Nat):Nat:=((H.bT.take k).map f).sum
    have hP:∀(f:AR->Nat) {k:Nat} {A:AR},H.bT[k]?=some A->P f (k+1)=P f k+f A:=λf _ _ j=>Ly f j;have Q:∀{f:AR->Nat} {c:Nat},(∀A∈H.bT,f A<=c)->∀k,P f k<=k*c:=λhf k=>Pk hf k;have C:∀f,P f H.bT.length=Vn f H:=λf=>by show((H.bT.take H.bT.length).map f).sum=_;rw[zm];rfl
    have E:∀f,P f 0=0:=λf=>by show((H.bT.take 0).map f).sum=0;simp
    clear_value P
    refine ZP (a:=bN) (λ(i:Int) u=>∃k:Nat,i=k/\k<=H.bT.length/\lT σ σ.size d u [Hr H.live,(Ua H:Nat),0,(P Ul k:Nat),(P p9 k:Nat),(P UA k:Nat),(P Uq k*256:Nat),(P Up k:Nat),(P VA k:Nat),M,D]/\P Ul k<=k*40000000000/\P p9 k<=k*40000000000/\P UA k<=k*40000000000/\P Up k<=k*40000000000) (λi _=>H.bT.length-i.toNat) ⟨0,rfl,O,?_⟩ ?_
    ·rw[E,E,E,E,E,E];exact⟨B,O,O,O,O⟩
    rintro(i:Int) u2 ⟨k,rfl,hk,B,l1,l2,l3,l4⟩;have h2:=h.bK B.e;have hal:=h2.j5;refine cH (λU=>?_) λhge=>?_
    ·have W:k<H.bT.length:=by simp only at U;omega
     have j:H.bT[k]?=some H.bT[k]:=cL _;generalize H.bT[k]=A at j;have ga:=G A (zE j);have r5:=Dp ga;have r6:=CL ga;obtain⟨Y,hy,_,hAY⟩:=h2.ar j;refine h2.rA hy (NW hAY O λv2 e2 ⟨r1,r2,r3,r4⟩=>?_);have B2:=B.fr e2;have s1:=hP Ul j;have s2:=hP p9 j;have s3:=hP UA j;have s4:=hP Up j;have s5:=hP Uq j;have s6:=hP VA j;have l5:=Q (f:=Uq) (λA j=>Dp (G A j)) k;have l6:=Q (f:=VA) (λA j=>CL (G A j)) k;have hfr:((iX A.n A.S:Nat):Int)=(VA A:Nat):=rfl;refine B2.rd rfl (bZ (m:=P Ul (k+1)) (by rw[s1];simp) O (B2.rd rfl (bZ (m:=P p9 (k+1)) (by rw[s2];simp) O (B2.rd rfl (bZ (m:=P UA (k+1)) (by rw[s3];simp) O ?_)))));refine B2.st O λv3 _ B3=>B3.st O λv4 _ B4=>B4.st O λv5 _ B5=>?_;refine B5.rd rfl (bZ (m:=P Up (k+1)) (by rw[s4];simp) O (B5.rd rfl (bZ (m:=Uq A*256) aA O (bZ (m:=P Uq (k+1)*256) (by rw[s5,zl];simp) O (B5.rd rfl (bZ (m:=P VA (k+1)) (by rw[s6,hfr];simp) O ?_))))));refine B5.st O λv6 _ B6=>B6.st O λv7 _ B7=>B7.st O λv8 _ B8=>?_;exact bZ (m:=k+1) O O ⟨⟨k+1,rfl,O,B8,O,O,O,O⟩,O⟩
    ·have hkk:k=H.bT.length:=by simp only at hge;omega
     subst hkk;have l5:=Q (f:=Uq) (λA j=>Dp (G A j)) H.bT.length;have l6:=Q (f:=VA) (λA j=>CL (G A j)) H.bT.length;rw[C]at l1 l2 l3 l4 l5 l6;rw[C,C,C,C,C,C]at B;exact B.fin λw e=>hR w e ⟨Z,O,O,O,O,O,O⟩
  ·rintro(b:List (Int×Bk)) n (x:Bk) w1 w2 J1 ⟨z,B,hn,hin,hz0,hz⟩ N ho U hJ1;have hsb:=B0.s.lt;have hnb:=B0.n.lt;have hz2:=ho.1;have hlm:L.lm<σ.size:=h.j0.lt;have B2:=B.own ho (.inr ⟨O,O,O⟩);have hl:=hin _ N;have hdel:=JE mq hn N;have K:∀y∈b.filter λy=>!(y.1==n),y∈H.live:=λy hy=>hin y (zH.1 hy).1;have hn':((b.filter λy=>!(y.1==n)).map (·.1)).Nodup:=hn.sublist (List.filter_sublist.map _);have aa:=(U8 (f:=λe:Int×Bk=>mq e.2) (c:=270000) λe he=>Du hi (K e he)).1;have hall:=(U8 (l:=H.live) (f:=λe:Int×Bk=>mq e.2) (c:=270000) λe he=>Du hi he).2;have hst:(H.live.map λe:Int×Bk=>mq e.2).sum=Hr H.live:=rfl;have hx0:=Du hi hl;rw[hst]at hall;obtain⟨rs,X⟩:∃rs,((b.filter λy=>!(y.1==n)).map λe:Int×Bk=>mq e.2).sum=rs:=⟨_,rfl⟩;have hdel':(b.map λe:Int×Bk=>mq e.2).sum=mq x+rs:=by rw[←X];exact hdel
   have hz':z+(b.map λe:Int×Bk=>mq e.2).sum=Hr H.live:=hz;rw[X]at aa;have V:∀y:Int,y+rs=Hr H.live->y+((b.filter λy=>!(y.1==n)).map λe:Int×Bk=>mq e.2).sum=Hr H.live:=λy hy=>by rw[X];exact hy
   refine nw (cs:=[.int .i64 0,.int .i64 0,.int .i64 0,.int .i64 0]) λv2 hzv e2 b2=>b2.s1 aA λv3 o3 b3=>b3.s1 aA λv4 o4 b4=>b4.s1 aA λv5 o5 b5=>b5.s1 aA λv6 o6 b6=>?_;have e6:bO w2 v6:=Ext.fresh (Ext.fresh (Ext.fresh (Ext.fresh e2 o3.ext λi hi=>O) o4.ext λi hi=>O) o5.ext λi hi=>O) o6.ext λi hi=>by omega
   have B6:=B2.fr e6;refine b6.rI rfl (cH (λhpos=>B6.rd rfl (b6.rI rfl ?_)) λhneg=>?_)
   ·have hs:mq x=x.2.1:=by unfold mq;exact zB hpos
    have hx1:0<=x.2.1/\x.2.1<=270000:=by rw[←hs];exact hx0
    refine ar O O (B6.st O λv7 e7 B7=>hJ1 v7 ?_ ?_ ⟨z+x.2.1,B7,hn',K,O,V _ O⟩)
    ·rw[e7.2 _ (by have:=e6.1;omega) (λ(N:w.size=d)=>O),e6.2 _ O id]
    ·rw[e7.2 _ (by have:=e6.1;omega) (λ(N:L.lm=d)=>by have:=B6.h2;omega),e6.2 _ O id]
   ·have hs:mq x=0:=by unfold mq;exact zA hneg
    refine hJ1 v6 (e6.2 _ O id) (e6.2 _ O id) ⟨z,B6,hn',K,hz0,V _ O⟩
 ·have hS:dD v F L.hs H.sp:=hv.xE;have fin:∀w d,bO v w->bW w d V8->v.size<=d->dG (Addr.add ⟨d,0,none⟩ 0) (.int .i64 0) w λv57=>dG (Addr.add ⟨d,0,none⟩ 1) (.int .i64 0) v57 λv58=>dG (Addr.add ⟨d,0,none⟩ 2) (.int .i64 0) v58 λv59=>dG (Addr.add ⟨d,0,none⟩ 3) (.int .i64 0) v59 λv60=>
   dG (Addr.add ⟨d,0,none⟩ 4) (.int .i64 0) v60 λv61=>dG (Addr.add ⟨d,0,none⟩ 5) (.int .i64 0) v61 λv62=>dG (Addr.add ⟨d,0,none⟩ 6) (.int .i64 0) v62 λv63=>dG (Addr.add ⟨d,0,none⟩ 7) (.int .i64 0) v63 λv64=>
   dG (Addr.add ⟨d,0,none⟩ 8) (.int .i64 0) v64 λv65=>dG (Addr.add ⟨d,0,none⟩ 9) (.int .i64 M) v65 λv66=>dG (Addr.add ⟨d,0,none⟩ 10) (.int .i64 D) v66 λv67=>J ⟨d,0,none⟩ v67:=λw d r bw hsb=>by
   have hv1:=hb.lt;refine uc bw 0 0 0 0 0 0 0 0 0 M D λw' e' b'=>hJ _ w' ⟨d,rfl,Ext.fresh (e.trans r) e' (λi (hi:i=d)=>O),e'.cA (r.cA hb id) (λ(N:σ.size=d)=>O),b',zC _,O,O,rfl⟩
  refine⟨λm=>bO v m,Ext.refl _ _,aG (bW.rH (c:=.p) (y:=some ⟨L.hs,0,none⟩) hv.hd rfl (aG (bW.rH (c:=.p) (y:=some ⟨L.hs,0,none⟩) hv.hd rfl ⟨?_,?_⟩)))⟩
  ·refine IV hS ⟨Ext.refl _ _,EB hS ⟨Ext.refl _ _,?_⟩,?_⟩
   ·rw[hm0,hd0];exact nw (cs:=V8) λw hzw r bw=>⟨r,fin w _ r bw (zC _)⟩
   ·refine nw (cs:=V8) λw hzw r bw=>⟨r,EB (hv.bK r).xE ⟨r,?_⟩⟩;rw[hm0,hd0];exact fin w _ r bw (zC _)
  ·refine nw (cs:=V8) λw hzw r bw=>⟨r,IV (hv.bK r).xE ⟨r,EB (hv.bK r).xE ⟨r,?_⟩⟩⟩;rw[hm0,hd0];exact fin w _ r bw (zC _)
end Go.Ar
namespace Go.Ar
open Go.Vc (bV dE cT)
def i63 (x:Int):Bool:=decide (x<=9223372036854775807)
def qy (H:Hw)(t:Nat):Ph->Bool
 | .take k=>decide (k<H.tb.length)&&(match Kj (H.cls k) ((H.kE t).li k)with
  | (some y,_)=>i63 y
  | (none,_)=>true)
 | .cO k _=>decide (k<H.tb.length)&&(Qd (H.eN t) (k:Int) != 0 || !(YP (H.eN t) (k:Int)).isEmpty)
 | .cQ _ _=>true
 | .grow _ _=>true
 | .fill=>match (H.kE t).bP with
  | (k,x::xs)::_=>decide (k<H.tb.length)&&(i63 x&&decide (((H.kE t).li k).os.length+xs.length<=256))
  | _=>false
 | .eT m=>decide (Qb (H.eN t) H.sp (m:Int) 1<=1000000)
 | .find x=>i63 x&&((bV H.live x).isSome&&decide (0<=x))
 | .put k _=>decide (k<H.tb.length) && !(H.kE t).bP.isEmpty
 | .back=>match (H.kE t).bP with
  | (_,xs)::_=>(xs.all λx=>i63 x&&decide (0<=Ye H.bT x))&&decide (xs.length<=1000000)
  | _=>false
 | .dK _ a=>decide (0<=a)&&(decide (a.toNat<H.bT.length)&&H.bT.all λA=>A.runs.all λr=>decide (r.1<=1000000))
 | .drain=>true
theorem As {x:Int}(h:i63 x=true):iF x:=by
 unfold i63 at h;unfold iF;exact ot h
theorem Wkv {H:Hw}{t:Nat}{p:Ph}(h:qy H t p=true):vF H t p:=by
 cases p with
 | take k=>
  simp only[qy,zF,zR]at h;refine⟨h.1,λy l j=>?_⟩;have e:=h.2;rw[j]at e;exact As e
 | cO k w=>
  simp only[qy,zF,zR,nX]at h;refine⟨h.1,λi d=>?_⟩;rw[i,d]at h;simp at h
 | cQ k w=>trivial
 | grow k w=>trivial
 | fill=>
  simp only[qy]at h;split at h
  ·rename_i k x xs r hh;simp only[zF,zR]at h;exact⟨k,x,xs,r,hh,h.1,As h.2.1,h.2.2⟩
  ·cases h
 | eT m=>
  simp only[qy,zR]at h;exact h
 | find x=>
  simp only[qy,zF,zR]at h;exact⟨As h.1,λu=>by rw[u]at h;simp at h,λb _=>h.2.2⟩
 | put k x=>
  simp only[qy,zF,zR]at h;exact⟨h.1,λd=>by rw[d]at h;simp at h⟩
 | back=>
  simp only[qy]at h;split at h
  ·rename_i k xs r hh;simp only[zF,zR,kR]at h;exact⟨k,xs,r,hh,λx g=>⟨As (h.1 x g).1,(h.1 x g).2⟩,h.2⟩
  ·cases h
 | dK s a=>
  simp only[qy,zF,zR,kR]at h;exact⟨h.1,h.2.1,h.2.2⟩
 | drain=>trivial
def pF:Nat->Hw->Nat->Ph->Option (Hw×Int×Int)
 | 0,_,_,_=>none
 | n+1,H,t,p=>if qy H t p&&decide ((H.kE t).bP.length<=900)then(match (Wt H t p).2.1 with
  | none=>some (QW H t p,(Wt H t p).2.2.1,(Wt H t p).2.2.2)
  | some p'=>pF n (QW H t p) t p')else none
theorem LL:∀{n:Nat} {H:Hw} {t:Nat} {p:Ph} {r:Hw×Int×Int},pF n H t p=some r->∃m,iU m H t p r.1 r.2.1 r.2.2
 | 0,_,_,_,_,h=>by simp[pF]at h
 | n+1,H,t,p,r,h=>by
  rw[pF]at h;split at h
  ·rename_i hc;simp only[zF,zR]at hc;have hok:wg H t p:=⟨Wkv hc.1,λg a=>by rw[←G6 a];exact hc.2⟩;split at h
   ·rename_i hn;cases h;exact⟨1,.done hok hn⟩
   ·rename_i p' hs;obtain⟨m,b⟩:=LL h;exact⟨m+1,.next hok hs b⟩
  ·cases h
def yk (H:Hw)(thread kind size align addr:Int):Option (Hw×Int×Int):=match KR H thread kind size align addr with
 | .inl e=>if e=0 then none else some (H,0,e)
 | .inr (t,p)=>pF 40 (eV H t (some p)) t p
theorem Nl {H:Hw}{thread kind size align addr:Int}{r:Hw×Int×Int}(h:yk H thread kind size align addr=some r):Hg H thread kind size align addr r.1 r.2.1 r.2.2:=by
 unfold yk at h;split at h
 ·rename_i e he;split at h
  ·cases h
  ·rename_i hne;cases h;exact .inl ⟨he,hne,rfl,rfl⟩
 ·rename_i t p he;obtain⟨m,a⟩:=LL h;exact .inr ⟨t,p,m,he,a⟩
def tg:List bX:=(qR 8).map Z0
def w0:Hw:=Ur tg ⟨64,1,1,1024,2⟩
def qp (H:Hw)(kind size addr:Int):Hw×Int×Int:=(yk H 0 kind size (if kind=0 then 8 else 0) addr).getD (H,0,99)
theorem TY {H:Hw}{kind size addr:Int}(h:(qp H kind size addr).2.2≠99):Hg H 0 kind size (if kind=0 then 8 else 0) addr (qp H kind size addr).1 (qp H kind size addr).2.1 (qp H kind size addr).2.2:=by
 unfold qp at *;cases hw:yk H 0 kind size (if kind=0 then 8 else 0) addr with
 | none=>rw[hw]at h;exact absurd rfl h
 | some r=>exact Nl hw
theorem CN {H:Hw}{kind size addr al a e:Int}{N:Hw×Int×Int}(hN:N=qp H kind size addr)(h:N.2=(a,e))(hne:e≠99)(hal:al=if kind=0 then 8 else 0):Hg H 0 kind size al addr N.1 a e:=by
 have b:=TY (H:=H) (kind:=kind) (size:=size) (addr:=addr) (by rw[←hN,h];exact hne);rw[←hN,h,←hal]at b;exact b
theorem xN:Ur ((qR 8).map Z0) ⟨(64:Int).toNat,(1:Int).toNat,(1:Int).toNat,(1024:Int).toNat,(2:Int).toNat⟩=w0:=rfl
end Go.Ar
namespace Go.Ar
open Go Go.Vc Go.Proofs
variable {σ u u':Hp}{F:Rg}{L:dP}{H H':Hw}{N:Nat}
attribute [local irreducible] w0 qp tg
theorem TK (g:Gl σ)(gd:Gd σ){R:Option Addr->Hp->Prop}(hR:∀σ' L N,bO σ σ'->σ.size<=N->N<=σ'.size->HH σ' (λb=>N<=b) L w0->R (some ⟨L.p,0,none⟩) σ'):XI.c σ R:=by
 refine XI.o ?_;refine Wu.o ?_;refine nw (cs:=[.int .i64 8,.int .i64 64,.int .i64 1,.int .i64 1,.int .i64 1024,.int .i64 2]) λv A e r=>r.rI rfl ?_;refine FF 8 aB aB λs x u w=>?_;have a:=u.cA r id;have d:=e.trans u;refine a.gD rfl (a.gD rfl (a.gD rfl (a.gD rfl (a.gD rfl ?_))));refine Bm w (g.bK d) (gd.bK d) 64 1 1 1024 2 (λj=>?_) (λ_ y=>?_) λ_ _ z L i m=>?_
 ·have:=Gs 8 aB aB;rw[show((8:Nat):Int)=8 from rfl]at this;rw[this]at j;cases j
 ·exact absurd y aB
 ·rw[xN]at m;exact cF rfl (hR z L x.size (d.trans i) d.1 i.1 m)
end Go.Ar
namespace Go.Proofs
open Go.Vc
set_option maxRecDepth 100000
def Qo.h:Hn:=.q .o2 (.q (.q .o3 .aJ) (.q (.q (.cV (.seq [.op,.op,.op,.dA false 2 [.op,.op],.op,.dA false 2 [.op,.op],.op,.dA false 2 [.op,.op],.op,.dA false 5 (RI.ops 5)])) .aJ) (.q .o9 (.q (.q .o2 (.c (.q .o9 .l) .l)) (.q .fW (.q .fW (.q (.oq 16) .l)))))))
theorem Qo.o {a:Sl}{b c:Int}{d:Hp}{e:Int->Int->Hp->Prop}(f:ZK.c a d λf g=>If (!f) (e 0 2 g) (bY (λh i=>bY (λj k=>bY (λl m=>bY (λn o=>If n (e 0 1 o) (Z5.c a b c o λp q r=>If (q != 0) (bL (b+256) λs=>bL (s-1) λt=>Nz 256<|bL (t.tdiv 256) λu=>bL (u*256) λv=>bL (v-b) λw=>e w 0 r) (Ix a.a a.len p 3 λx=>aQ x 0 r λy=>aQ x 1 r λz=>aQ x 2 r λaa=>Zh.c y z aa r λab ac ad=>Ix a.a a.len p 3 λae=>aQ ae 0 ad λaf=>aQ ae 1 ad λag=>aQ ae 2 ad λah=>Qw.c af ag ah ad λai aj ak=>Ix a.a a.len p 3 λal=>aQ al 0 ak λam=>bL (am-b) λan=>bL (ai+ab) λao=>bL (ao-1) λap=>Nz ab<|bL (ap.tdiv ab) λaq=>bL (an+aq) λar=>e ar 0 ak))) λau=>If l (au true m) (bL (c-1) λav=>au ((bits .and .i64 c av) != 0) m)) λaw=>If j (aw true k) (aw (decide (c>256)) k)) λax=>If h (ax true i) (ax (decide (c<1)) i)) λay=>If (b<1) (ay true g) (ay (decide (b>16384)) g))):Qo.c a b c d e:=Wa Tryz.func14 (x:=Qo.h) (R0 f)
def QP.h:Hn:=.q .o2 (.q (.q .o3 .aJ) (.q .o6 .l))
theorem QP.o {a:R2}{b:Hp}{c:Option Addr->Int->Hp->Prop}(d:Qx.c a b λd e=>If (!d) (c none 1 e) (Nw (.map #[] 0) e λf g=>aV #[.pointer a,.map (some f.block),.I 0,.I 0,.I 0,.I 0,.I 0,.I 0] 38 g λh i=>c (some h) 0 i)):QP.c a b c:=Wa Tryz.func19 (x:=QP.h) (R0 d)
def XF.h:Hn:=.q .o2 (.q (.q .o3 .aJ) (.q (.o 13) (.jc [] (.q .o2 (.c (.q .o3 (.q .o7 .o9)) .l)) (.q .o6 (.q .o4 .l)))))
theorem XF.o {a:R2}{b c d:Int}{e:Hp}{f:Int->Int->Hp->Prop}(g:Xw.c a e λg h=>If (!g) (f 0 5 h) (bQ a λi=>aY i 0 h λj=>Yp.c j b c d h λk l m=>Jn [] (λn=>bQ a λo=>XU.c a l (some (o.add 5)) n λp=>f k l p) λq=>If (l==0) (XE.c a k m λr=>bI a 1 r λt=>ld .i64 bN t k c r λu=>bD a 2 u λw=>bL (w+c) λx=>bQ a λy=>aR y 2 (.I x) u λz=>q z) (q m))):XF.c a b c d e f:=Wa Tryz.func20 (x:=XF.h) (R0 g)
def Qj.h:Hn:=.q .o3 (.q (.q .o3 (.c (.q .o3 .l) .l)) (.q .o4 (.q (.cV (.ic false [] [(6,.one .s),(7,.one .s)] (.take 0 (.take 2 (.all [(1,.take 4 (.all [(3,.take 5 (.done))])),(3,.all [(1,.take 4 (.take 5 (.done)))])]))))) (.q (.q .o4 (.k (.loop [(27,.I)] (.q .o1 (.q (.c .l .l) (.q (.k (.q .o4 (.q .o4 (.k (.loop [(10,.I)] (.q (.q .o9 (.c .l .l)) (.q (.k .o4) .o3))))))) .o2)))))) (.q (.q .o3 (.k (.loop [(51,.I)] (.q .o1 (.q (.c .l .l) (.q (.k (.q .o2 (.q .o9 (.cV (.seq [.op,.op,.op,.op,.op,.dA true 5 (RI.ops 5),.op,.op]))))) .o2)))))) (.q .o7 .l))))))
theorem Qj.o {a:R2}{b:Hp}{c:Sl->Sl->Int->Hp->Prop}(d:Qx.c a b λd e=>If (!d) (c ⟨none,0,0⟩ ⟨none,0,0⟩ 1 e) (Yr.c a e λf g h i j k=>Jn [.s,.s] (λ(l:Sl) (m:Sl) n=>Y5.c a n λo p=>WR [bN] (λq=>q 0 p) λr (s:Int) t=>If (s<((o.len:Nat):Int)) (Ix o.a o.len s 4 λu=>aQ u 0 t λv=>aQ u 1 t λw=>aQ u 2 t λx=>aQ u 3 t λy=>aV #[.I 0,.I 0,.I 0,.I 0] 76 t λz aa=>aR z 0 (.I v) aa λab=>aR z 1 (.I w) ab λac=>aR z 2 (.I x) ac λad=>aR z 3 (.I y) ad λae=>aQ z 0 ae λaf=>Nz 256<|bL (af.tdiv 256) λag=>WR [bN] (λah=>ah ag ae) λai (aj:Int) ak=>aQ z 0 ak λal=>aQ z 1 ak λam=>bL (al+am) λan=>bL (an-1) λao=>Nz 256<|bL (ao.tdiv 256) λap=>If (aj<=ap) (Ix l.a l.len aj 1 λaq=>dG aq (.bool true) ak λar=>bL (aj+1) λau=>ai au ar) (bL (s+1) λav=>r av ak)) (WR [bN] (λaw=>aw 0 t) λax (ay:Int) az=>If (ay<((m.len:Nat):Int)) (bL (ay*256) λa0=>Zx.c a a0 az λa1 a2 a3=>bY (λa4 a5=>Ix m.a m.len ay 1 λa6=>dG a6 (.bool a4) a5 λa7=>bL (ay+1) λa8=>ax a8 a7) λa9=>If (a2==0) (Ix l.a l.len ay 1 λba=>j8 ba a3 λbb=>a9 (!bb) a3) (a9 false a3)) (Qy.c l az λbc bd=>Qy.c m bd λbe bf=>c bc be 0 bf))) λbg=>(Mk f f 1 4 [.bool false] k λbh bi=>Mk f f 1 4 [.bool false] bi λbj bk=>bg bh bj bk) ∧ (Mk f f 1 4 [.bool false] k λbl bm=>Mk f f 1 4 [.bool false] bm λbn bo=>bg bn bl bo))):Qj.c a b c:=Wa Tryz.func22 (x:=Qj.h) (R0 d)
def Ze.h:Hn:=.q .o1 (.q (.q .o3 .aK) (.q .o8 (.jc [] (.q .o2 (.c .o3 .l)) (.q .o6 .aL))))
theorem Ze.o {a:R2}{b c:Int}{d:Hp}{e:aN}(f:Xw.c a d λf g=>If (!f) (e 5 g) (bQ a λh=>aY h 0 g λi=>Zl.c i b c g λj k=>Jn [] (λl=>bQ a λm=>XU.c a j (some (m.add 6)) l λn=>e j n) λo=>If (j==0) (XE.c a c k λp=>o p) (o k))):Ze.c a b c d e:=Wa Tryz.func23 (x:=Ze.h) (R0 f)
def XH.h:Hn:=.q .o1 (.q (.q .o3 .aJ) (.q .o7 (.q (.cV (.held true [47] (.tk [0,1,2,3,4,5,6,7,10,11,12,13,14,15,16,17,18,19,20,21,22,23,24,25,26,27,28,29,30,31,32,33,34,35,36,37,38,39,40,41,42,43,44,45] (.all [(8,.all [(9,.take 46 (.all [(47,.done)]))])])))) .l)))
theorem XH.o {a:R2}{b:Hp}{c:Int->Int->Int->Int->Int->Int->Int->Int->Int->Int->Hp->Prop}(d:aV #[.I 0,.I 0,.I 0,.I 0,.I 0,.I 0,.I 0,.I 0,.I 0,.I 0] 56 b λd e=>Xw.c a e λf g=>If (!f) (aR d 0 (.I 0) g λh=>aR d 1 (.I 0) h λi=>aR d 2 (.I 0) i λj=>aR d 3 (.I 0) j λk=>aR d 4 (.I 0) k λl=>aR d 5 (.I 0) l λm=>aR d 6 (.I 0) m λn=>aR d 7 (.I 0) n λo=>aR d 8 (.I 0) o λp=>aR d 9 (.I 0) p λq=>aQ d 0 q λr=>aQ d 1 q λs=>aQ d 2 q λt=>aQ d 3 q λu=>aQ d 4 q λv=>aQ d 5 q λw=>aQ d 6 q λx=>aQ d 7 q λy=>aQ d 8 q λz=>aQ d 9 q λaa=>c r s t u v w x y z aa q) (bF a 0 g λac=>Yf.c ac g λad ae af ag ah ai aj ak al am an ao=>aV #[.I 0,.I 0,.I 0,.I 0,.I 0,.I 0,.I 0,.I 0,.I 0,.I 0,.I 0] 89 ao λap aq=>aR ap 0 (.I ad) aq λar=>aR ap 1 (.I ae) ar λau=>aR ap 2 (.I af) au λav=>aR ap 3 (.I ag) av λaw=>aR ap 4 (.I ah) aw λax=>aR ap 5 (.I ai) ax λay=>aR ap 6 (.I aj) ay λaz=>aR ap 7 (.I ak) az λa0=>aR ap 8 (.I al) a0 λa1=>aR ap 9 (.I am) a1 λa2=>aR ap 10 (.I an) a2 λa3=>dW a3 λa4=>bQ a λa5=>aS a4 a5 2 λa6=>bQ a λa7=>aU a4 a7 0 λa8=>aS a4 ap 1 λa9=>aS a4 ap 2 λba=>bL (a9+ba) λbb=>
 aS a4 ap 3 λbc=>bL (bb+bc) λbd=>aS a4 ap 4 λbe=>bL (bd+be) λbf=>aS a4 ap 5 λbg=>aS a4 ap 8 λbh=>bL (bh*256) λbi=>bQ a λbj=>aS a4 bj 3 λbk=>bQ a λbl=>aS a4 bl 4 λbm=>bQ a λbn=>aS a4 bn 5 λbo=>bQ a λbp=>aS a4 bp 6 λbq=>bQ a λbr=>aS a4 br 7 λbs=>Y5.c a8 a3 λbt bu=>And (a4 bu) <| Xa.c bt ⟨60,#[],#[]⟩ bu λbv bw=>And (a4 bw) <| aR d 0 (.I a6) bw λbx=>aR d 1 (.I bv) bx λbz=>aR d 2 (.I bf) bz λb0=>aR d 3 (.I bg) b0 λb1=>aR d 4 (.I bi) b1 λb2=>aR d 5 (.I bk) b2 λb3=>aR d 6 (.I bm) b3 λb4=>aR d 7 (.I bo) b4 λb5=>aR d 8 (.I bq) b5 λb6=>aR d 9 (.I bs) b6 λb7=>aQ d 0 b7 λb8=>aQ d 1 b7 λb9=>aQ d 2 b7 λca=>aQ d 3 b7 λcb=>aQ d 4 b7 λcc=>aQ d 5 b7 λcd=>aQ d 6 b7 λce=>aQ d 7 b7 λcf=>aQ d 8 b7 λcg=>aQ d 9 b7 λch=>c b8 b9 ca cb cc cd ce cf cg ch b7)):XH.c a b c:=Wa Tryz.func24 (x:=XH.h) (R0 d)
def Yz.h:Hn:=.q .o1 (.q (.q .o3 .aK) (.q .o6 (.q .o2 (.q (.q .o7 (.k (.loop [(29,.I)] (.q .o1 (.q (.c .l .l) (.q (.k (.q .o4 (.q .o6 (.q .o4 (.q .o5 (.q .o7 (.q (.cV (.tail 11 (RI.ops 11) [.op])) .o5))))))) .o2)))))) (.q .o1 (.q (.q .o1 (.k (.loop [(8,.one .s),(9,.I)] (.q (.q .o4 (.c .l .l)) (.q (.k (.q .o9 (.q (.q .o2 (.c .l .l)) (.jc [] (.q .o2 (.c (.q .fW (.cV (.held true [13,15] (.tk [0,1,2,3,4,5,6,7,8,9,10,11,12] (.all [(13,.take 14 (.all [(15,.done)]))]))))) .l)) .o5)))) .o3))))) .aL))))))
theorem Yz.o {a:R2}{b:Hp}{c:Sl->Hp->Prop}(d:Xw.c a b λd e=>If (!d) (c ⟨none,0,0⟩ e) (bF a 0 e λg=>Y3.c g e λh i=>Nw (.map #[] 0) i λj k=>bF a 0 k λm=>Y5.c m k λn o=>WR [bN] (λp=>p 0 o) λq (r:Int) s=>If (r<((n.len:Nat):Int)) (Ix n.a n.len r 4 λt=>aQ t 0 s λu=>aQ t 1 s λv=>aQ t 2 s λw=>aQ t 3 s λx=>aV #[.I 0,.I 0,.I 0,.I 0] 76 s λy z=>aR y 0 (.I u) z λaa=>aR y 1 (.I v) aa λab=>aR y 2 (.I w) ab λac=>aR y 3 (.I x) ac λad=>aQ y 2 ad λae=>Lk .i64 (.ag 6) (some j.block) ae ad λaf=>aV #[.I 0,.I 0,.I 0,.I 0,.I 0,.I 0] 80 ad λag ah=>aR ag 0 (.I ((af.getD (0,0,0,0,0,0)).1)) ah λai=>aR ag 1 (.I ((af.getD (0,0,0,0,0,0)).2.1)) ai λaj=>aR ag 2 (.I ((af.getD (0,0,0,0,0,0)).2.2.1)) aj λak=>aR ag 3 (.I ((af.getD (0,0,0,0,0,0)).2.2.2.1)) ak λal=>aR ag 4 (.I ((af.getD (0,0,0,0,0,0)).2.2.2.2.1)) al λam=>aR ag 5 (.I ((af.getD (0,0,0,0,0,0)).2.2.2.2.2)) am λan=>aQ y 2 an λao=>aR ag 0 (.I ao) an λap=>aQ ag 2 ap λaq=>bL (aq+1) λar=>aR ag 2 (.I ar) ap λau=>aQ ag 3 au λav=>aQ y 1 au λaw=>bL (av+aw) λax=>aR ag 3 (.I ax) au λay=>aQ ag 4 ay λaz=>bI a 1 ay λa1=>aQ y 0 ay λa2=>Lk .i64 bN a1 a2 ay λa3=>bL (az+(a3.getD 0)) λa4=>
 aR ag 4 (.I a4) ay λa5=>aQ y 2 a5 λa6=>aQ ag 0 a5 λa7=>aQ ag 1 a5 λa8=>aQ ag 2 a5 λa9=>aQ ag 3 a5 λba=>aQ ag 4 a5 λbb=>aQ ag 5 a5 λbc=>ld .i64 (.ag 6) (some j.block) a6 (a7,a8,a9,ba,bb,bc) a5 λbd=>bL (r+1) λbe=>q be bd) (WR [.s,bN] (λbf=>bf ⟨none,0,0⟩ (-1) s) λbg (bh:Sl) (bi:Int) bj=>If (bi<((h.len:Nat):Int)) (Lk .i64 (.ag 6) (some j.block) bi bj λbk=>aV #[.I 0,.I 0,.I 0,.I 0,.I 0,.I 0] 80 bj λbl bm=>aR bl 0 (.I ((bk.getD (0,0,0,0,0,0)).1)) bm λbn=>aR bl 1 (.I ((bk.getD (0,0,0,0,0,0)).2.1)) bn λbo=>aR bl 2 (.I ((bk.getD (0,0,0,0,0,0)).2.2.1)) bo λbp=>aR bl 3 (.I ((bk.getD (0,0,0,0,0,0)).2.2.2.1)) bp λbq=>aR bl 4 (.I ((bk.getD (0,0,0,0,0,0)).2.2.2.2.1)) bq λbr=>aR bl 5 (.I ((bk.getD (0,0,0,0,0,0)).2.2.2.2.2)) br λbs=>If (!bk.isSome) (bL (bi+1) λbt=>bg bh bt bs) (Jn [] (λbu=>aQ bl 0 bu λbv=>aQ bl 1 bu λbw=>aQ bl 2 bu λbx=>aQ bl 3 bu λbz=>aQ bl 4 bu λb0=>aQ bl 5 bu λb1=>aV #[.I bv,.I bw,.I bx,.I bz,.I b0,.I b1] 80 bu λb2 b3=>App bh 6 48 80 [.I 0,.I 0,.I 0,.I 0,.I 0,.I 0] ⟨some b2,1,1⟩ b3 λb4 b5=>bL (bi+1) λb6=>bg b4 b6 b5) λb7=>If (bi≥0) (Ix h.a h.len bi 3 λb8=>aQ b8 0 bs λb9=>aQ b8 1 bs λca=>aQ b8 2 bs λcb=>Zh.c b9 ca cb bs λcc cd ce=>dW ce λcf=>
 Ix h.a h.len bi 3 λcg=>aS cf cg 0 λch=>aS cf bl 2 λci=>bL (ci+cc) λcj=>bL (cj-1) λck=>Nz cc<|bL (ck.tdiv cc) λcl=>aR bl 1 (.I ch) ce λcm=>aR bl 5 (.I cl) cm λcn=>b7 cn) (b7 bs))) (c bh bj)))):Yz.c a b c:=Wa Tryz.func25 (x:=Yz.h) (R0 d)
def Qx.h:Hn:=.q .o1 (.q (.cV (.seq [.op,.op,.op,.dA true 4 (RI.ops 4),.op])) .l)
theorem Qx.o {a:R2}{b:Hp}{c:aO}(d:bY (λd e=>c d e) λf=>If (!a.isNone) (Yr.c a b λg h i j k l=>f (decide (g>0)) l) (f false b)):Qx.c a b c:=Wa Tryz.func50 (x:=Qx.h) (R0 d)
def Xw.h:Hn:=.q .o1 (.q (.cV (.seq [.op,.op,.op,.dA true 5 (RI.ops 5),.op])) .l)
theorem Xw.o {a:R2}{b:Hp}{c:aO}(d:bY (λd e=>c d e) λf=>If (!a.isNone) (bF a 0 b λh=>f (!h.isNone) b) (f false b)):Xw.c a b c:=Wa Tryz.func51 (x:=Xw.h) (R0 d)
def XE.h:Hn:=.q (.cV (.tail 13 (RI.ops 13) [.op])) .o6
theorem XE.o {a:R2}{b:Int}{c:Hp}{d:aP}(e:bQ a λe=>aQ e 2 c λf=>bI a 1 c λh=>Lk .i64 bN h b c λi=>bL (f-(i.getD 0)) λj=>bQ a λk=>aR k 2 (.I j) c λl=>bI a 1 l λn=>mL .i64 bN n b l λo=>d o):XE.c a b c d:=Wa Tryz.func53 (x:=XE.h) (R0 e)
def XU.h:Hn:=.jc [] (.q .o2 (.c .o6 .o8)) (.q (.cV (.tail 12 (RI.ops 12) [.op])) (.cV (.held true [15] (.tk [0,1,2,3,4,5,6,7,8] (.all [(9,.tk [10,11,12,13,14] (.all [(15,.done)]))])))))
theorem XU.o {a:R2}{b:Int}{c:R2}{d:Hp}{e:aP}(f:Jn [] (λf=>bD a 3 f λh=>bD a 2 f λj=>bQ a λk=>aR k 3 (.I (if j>h then j else h)) f λl=>dW l λm=>bQ a λn=>aS m n 4 λo=>bQ a λp=>aU m p 0 λq=>Yf.c q l λr s t u v w x y z aa ab ac=>And (m ac) <| bL (ab*256) λad=>bQ a λae=>aR ae 4 (.I (if ad>o then ad else o)) ac λaf=>e af) λag=>If (b==0) (bQ c λah=>bM ah d λai=>bL (ai+1) λaj=>bQ c λak=>dG ak (.I aj) d λal=>ag al) (bD a 7 d λan=>bL (an+1) λao=>bQ a λap=>aR ap 7 (.I ao) d λaq=>ag aq)):XU.c a b c d e:=Wa Tryz.func54 (x:=XU.h) (R0 f)
def Qy.h:Hn:=.q .o1 (.q .o1 (.q (.q .o3 (.k (.loop [(3,.one .s),(9,.I)] (.q .o1 (.q (.c .l .l) (.q (.k (.q .o5 (.q .o3 (.k (.q .o3 (.c .l (.q (.cV (.quiet [.op,.op,.op,.dA true 15 (RI.ops 15),.op])) (.c .fW .o6)))))))) .o2)))))) .aL))
theorem Qy.o {a:Sl}{b:Hp}{c:Sl->Hp->Prop}(d:WR [.s,bN] (λd=>d ⟨none,0,0⟩ 0 b) λe (f:Sl) (g:Int) h=>If (g<((a.len:Nat):Int)) (Ix a.a a.len g 1 λi=>j8 i h λj=>If (!j) (bL (g+1) λk=>e f k h) (bY (λl m=>If l (bL (((f.len:Nat):Int)-1) λn=>Ix f.a f.len n 2 λo=>aQ o 1 m λp=>bL (p+1) λq=>Ix f.a f.len n 2 λr=>aR r 1 (.I q) m λs=>bL (g+1) λt=>e f t s) (aV #[.I g,.I 1] 92 m λu v=>App f 2 16 92 [.I 0,.I 0] ⟨some u,1,1⟩ v λw x=>bL (g+1) λy=>e w y x)) λz=>If (((f.len:Nat):Int)>0) (bL (((f.len:Nat):Int)-1) λaa=>Ix f.a f.len aa 2 λab=>aQ ab 0 h λac=>bL (((f.len:Nat):Int)-1) λad=>Ix f.a f.len ad 2 λae=>aQ ae 1 h λaf=>bL (ac+af) λag=>z (ag==g) h) (z false h))) (c f h)):Qy.c a b c:=Wa Tryz.func57 (x:=Qy.h) (R0 d)
def Xa.h:Hn:=.q .o1 (.q .o1 (.q (.q .o3 (.k (.loop [(5,.I),(10,.I)] (.q .o1 (.q (.c .l .l) (.q (.k (.q .o4 .o6)) .o2)))))) .aL))
theorem Xa.o {a:Sl}{b:Fv}{c:Hp}{d:aN}(e:WR [bN,bN] (λe=>e 0 0 c) λf (g:Int) (h:Int) i=>If (h<((a.len:Nat):Int)) (Ix a.a a.len h 4 λj=>aQ j 0 i λk=>aQ j 1 i λl=>aQ j 2 i λm=>aQ j 3 i λn=>aV #[.I 0,.I 0,.I 0,.I 0] 76 i λo p=>aR o 0 (.I k) p λq=>aR o 1 (.I l) q λr=>aR o 2 (.I m) r λs=>aR o 3 (.I n) s λt=>aQ o 0 t λu=>aQ o 1 t λv=>aQ o 2 t λw=>aQ o 3 t λx=>V1 Tryz.prog b [.agg #[.I u,.I v,.I w,.I x]] [.I] t λy z=>bL (g+y) λaa=>bL (h+1) λab=>f aa ab z) (d g i)):Xa.c a b c d:=Wa Tryz.func59 (x:=Xa.h) (R0 e)
def XL.h:Hn:=.q .o2 (.q .o3 .l)
theorem XL.o {a b c d:Int}{e:Hp}{f:aN}(g:aV #[.I a,.I b,.I c,.I d] 76 e λg h=>aQ g 1 h λi=>f i h):XL.c a b c d e f:=Wa Tryz.func60 (x:=XL.h) (R0 g)
end Go.Proofs
namespace Go.Ar
open Go Go.Vc Go.Proofs
open Go.Vc (bV dE cT)
open Go.Bu (iX)
variable {σ σ0 v w w':Hp}{F P Q X T:Rg}{L:dP}{H H':Hw}{held:List Pc}{s0:Sp}{t n:Nat}{g:Th}{mb am m:Nat}
structure Me where
 asked:List (Int×Int)
 sum:Int
 dO:Int
 dL:Int
 cU:Nat
 fV:Nat
 iy:Nat
def Me.calls (x:Me):Nat:=x.cU+x.fV+x.iy
structure ly (x:Me):Prop where
 v:∀y∈x.asked,0<=y.2/\y.2<=16384
 l:x.asked.length<=x.cU
 s:x.sum=(x.asked.map (·.2)).sum
 p:0<=x.dO/\x.dO<=16384000
 d:0<=x.dL/\x.dL<=1000000
 c:x.calls<=900
def pf:Me:=⟨[],0,0,0,0,0,0⟩
theorem Ct:ly pf:=⟨by simp[pf],by simp[pf],rfl,by simp[pf],by simp[pf],by simp[pf,Me.calls]⟩
def Me.forget (x:Me)(a:Int):Me:={x with asked:=cT x.asked a,sum:=x.sum-(bV x.asked a).getD 0}
def Me.add (x:Me)(a size:Int):Me:={x with asked:=dE x.asked a size,sum:=x.sum+size}
def Me.count (x:Me)(e:Int)(gO:Bool):Me:=if e=0 then(if gO then{x with cU:=x.cU+1}else{x with fV:=x.fV+1})else{x with iy:=x.iy+1}
def Me.eM (x:Me)(D:Int):Me:={x with dO:=if x.sum>x.dO then x.sum else x.dO,dL:=if D*256>x.dL then D*256 else x.dL}
theorem ly.jg {x:Me}(h:ly x):0<=x.sum/\x.sum<=14745600:=by
 have a:=U8 (l:=x.asked) (f:=λy:Int×Int=>y.2) (c:=16384) h.v;have d:=h.l;have b:=h.c;unfold Me.calls at b;rw[h.s];exact⟨a.1,by have:=a.2;omega⟩
def vT (hp am:Nat)(x:Me):List Value:=[.pointer (some ⟨hp,0,none⟩),.map (some am),.int .i64 x.sum,.int .i64 x.dO,.int .i64 x.dL,.int .i64 (x.cU:Int),.int .i64 (x.fV:Int),.int .i64 (x.iy:Int)]
structure MP (σ0 σ:Hp) (L:dP) (H:Hw) (held:List Pc) (s0:Sp) (P:Rg) (mb am:Nat) (x:Me):Prop where
 e:bO σ0 σ
 h:HH σ P L H
 hi:HI H held s0
 cf:mI H
 ph:∀g∈H.bS,g.ph=none
 pg:H.cf.aF<=128
 pP:∀b,P b->σ0.size<=b/\b<σ.size
 tB:σ0.size<=mb/\¬P mb
 uo:σ0.size<=am/\¬P am
 ne:mb≠am
 b:bW σ mb (vT L.p am x)
 m:dN σ am .i64 bN x.asked
 g0:jh (λb=>σ0.size<=b)/\¬σ0.size<=1
variable {x y:Me}
theorem MP.fr (p:MP σ0 σ L H held s0 P mb am x)(e:bO σ w):MP σ0 w L H held s0 P mb am x:=
 ⟨p.e.trans e,p.h.bK e,p.hi,p.cf,p.ph,p.pg,λb a=>⟨(p.pP b a).1,by have:=(p.pP b a).2;have:=e.1;omega⟩,p.tB,p.uo,p.ne,e.cA p.b id,e.gN p.m id,p.g0⟩
theorem MP.out (p:MP σ0 σ L H held s0 P mb am x)(e:Ext T σ w)(hT:∀b,b<σ.size->T b->¬P b/\b≠mb/\b≠am/\σ0.size<=b):MP σ0 w L H held s0 P mb am x:=by
 have s:=e.1;have a:=p.b.lt;have r:=p.m.lt;have g:Ext (λb=>T b/\b<σ.size) σ w:=⟨e.1,λb a i=>e.2 b a λd=>i ⟨d,a⟩⟩;refine⟨Ext.fE p.e g λb a=>.inr (hT b a.2 a.1).2.2.2,p.h.bU g (λb a j d=>(hT b a d.1).1 j) (λb a=>?_) (λa=>?_),p.hi,p.cf,p.ph,p.pg,λb a=>⟨(p.pP b a).1,by have:=(p.pP b a).2;omega⟩,p.tB,p.uo,p.ne,e.cA p.b λd=>(hT mb a d).2.1 rfl,e.gN p.m λd=>(hT am r d).2.2.1 rfl,p.g0⟩
 ·exact p.g0.1 b (hT b a.2 a.1).2.2.2
 ·exact p.g0.2 (hT _ a.2 a.1).2.2.2
theorem MP.step (p:MP σ0 σ L H held s0 P mb am x){ts':List eH}(e:Ext P σ w)(h':HH w (Grow P σ) {L with ts:=ts'} H'){held':List Pc}{s0':Sp}(hi':HI H' held' s0')(k:Qf H' H)(ph':∀g∈H'.bS,g.ph=none) :
 MP σ0 w {L with ts:=ts'} H' held' s0' (Cut (Grow P σ) w) mb am x:=by
 have u:=e.1;have a:=p.b.lt;have s:=p.m.lt;have i:∀b,b<σ.size->¬P b->¬Cut (Grow P σ) w b:=λb d j r=>by
  rcases r.1 with h3|h3
  ·exact j h3
  ·omega
 refine⟨Ext.fE p.e e λb a=>.inr (p.pP b a).1,h'.cut,hi',p.cf.bU k,ph',by rw[k.2.1];exact p.pg,λb a=>⟨?_,a.2⟩,⟨p.tB.1,i mb a p.tB.2⟩,⟨p.uo.1,i am s p.uo.2⟩,p.ne,e.cA p.b p.tB.2,e.gN p.m p.uo.2,p.g0⟩;have:=p.e.1;rcases a.1 with d|d
 ·exact(p.pP b d).1
 ·omega
theorem MP.fQ (p:MP σ0 σ L H held s0 P mb am x)(e:Ext (λb=>b=mb\/b=am) σ w)(hb:bW w mb (vT L.p am y))(hm:dN w am .i64 bN y.asked):MP σ0 w L H held s0 P mb am y:=by
 have j:=e.1;have a:∀b,(b=mb\/b=am)->σ0.size<=b/\¬P b:=λb hb=>by
  rcases hb with rfl|rfl
  ·exact p.tB
  ·exact p.uo
 exact⟨Ext.fE p.e e λb hb=>.inr (a b hb).1,p.h.bU e (λb _ d g=>(a b g).2 d) (λb hb=>p.g0.1 b (a b hb).1) (λhb=>p.g0.2 (a _ hb).1),p.hi,p.cf,p.ph,p.pg,λb hb=>⟨(p.pP b hb).1,by have:=(p.pP b hb).2;omega⟩,p.tB,p.uo,p.ne,hb,hm,p.g0⟩
theorem MP.st (p:MP σ0 σ L H held s0 P mb am x){i:Nat}{u:Value}(hi:i<8)(y:Me)(he:(vT L.p am x).set i u=vT L.p am y)(ha:y.asked=x.asked){K:aP}(hK:∀w,Ext (λb=>b=mb\/b=am) σ w->MP σ0 w L H held s0 P mb am y->K w):dG (Addr.add ⟨mb,0,none⟩ i) u σ K:=by
 refine p.b.s1 (by simp[vT];omega) λw o b=>?_;have e:Ext (λb=>b=mb\/b=am) σ w:=o.ext.sub λb a=>.inl a;rw[zG,he]at b;exact hK w e (p.fQ e b (by rw[ha];exact o.ext.gN p.m λ(d:am=mb)=>p.ne d.symm))
theorem MP.bP (p:MP σ0 σ L H held s0 P mb am x):∀g∈H.bS,g.bP=[]:=λg b=>by
 have a:=(p.hi.th g b).ph;unfold iG at a;rw[p.ph g b]at a;exact a
theorem A3 (p:MP σ0 σ L H held s0 P mb am x){R:aO}(hR:R true σ):Xw.c (aW mb) σ R:=by
 refine Xw.o ?_;exact bY.intro (cJ rfl (aG (p.b.rP rfl hR)))
theorem I2 (p:MP σ0 σ L H held s0 P mb am x)(mi:ly x)(a:Int){R:aP}(hR:∀w,Ext (λb=>b=mb\/b=am) σ w->MP σ0 w L H held s0 P mb am (x.forget a)->R w):XE.c (aW mb) a σ R:=by
 refine XE.o ?_;have y:=mi.jg;have u:0<=(bV x.asked a).getD 0/\(bV x.asked a).getD 0<=16384:=by
  cases hm:bV x.asked a with
  | none=>exact⟨rp _,by decide⟩
  | some z=>exact mi.v _ (KK hm)
 refine aG (p.b.rI rfl (aG (p.b.rM rfl ⟨x.asked,p.m,ar O O (aG ?_)⟩)));refine p.st O {x with sum:=x.sum-(bV x.asked a).getD 0} rfl rfl λi s d=>aG (d.b.rM rfl ⟨x.asked,d.m,λw2 o2 _ j=>?_⟩);have o2:=o2 am rfl;have e:Ext (λb=>b=mb\/b=am) i w2:=o2.ext.sub λb g=>.inr g;exact hR w2 (s.trans e) (d.fQ e (o2.ext.cA d.b λ(r:mb=am)=>p.ne r) j)
set_option maxRecDepth 8000 in
theorem Jy (p:MP σ0 σ L H held s0 P mb am x)(hc:x.calls<=899)(e:Int)(gO:Bool){R:aP}(hR:∀w,Ext (λb=>b=mb\/b=am) σ w->MP σ0 w L H held s0 P mb am ((x.count e gO).eM (H.sp.st.count 2:Nat))->R w) :
 XU.c (aW mb) e (some (Addr.add ⟨mb,0,none⟩ (if gO then 5 else 6))) σ R:=by
 refine XU.o ?_;unfold Me.calls at hc;refine qi (λw=>Ext (λb=>b=mb\/b=am) σ w/\MP σ0 w L H held s0 P mb am (x.count e gO)) (λw ⟨g,d⟩=>?_) λJ A=>?_
 ·generalize hy:x.count e gO=y at d;have G:y.sum=x.sum/\y.dO=x.dO/\y.dL=x.dL:=by subst hy;unfold Me.count;split<;>(try split)<;>exact⟨rfl,rfl,rfl⟩
  refine aG (d.b.rI rfl (aG (d.b.rI rfl (aG (d.st O {y with dO:=if y.sum>y.dO then y.sum else y.dO} rfl rfl λM F r=>?_)))))
  refine⟨λm=>bO M m,Ext.refl _ _,aG (bW.rH (c:=bN) (y:=y.dL) r.b rfl (aG (bW.rH (c:=.p) (y:=some ⟨L.p,0,none⟩) r.b rfl (Bq r.h r.hi r.bP λS u _=>⟨u,?_⟩))))⟩;have C:=r.fr u;have K:H.sp.st.count 2<=128:=by
   have N:=vQ (a:=2) (l:=H.sp.st);have Q:=p.hi.sl;have U:=p.pg;omega
  refine ar O O (aG (C.st O (y.eM (H.sp.st.count 2:Nat)) rfl rfl λE B D=>?_));exact hR E (((g.trans F).trans (bO.to u)).trans B) (by rw[hy];exact D)
 ·refine cH (λz=>?_) λz=>?_
  ·have j:e=0:=by simpa using z
   subst j;cases gO with
   | true=>exact aG (p.b.rI rfl (bZ (m:=x.cU+1) aA O (aG (p.st (i:=5) O {x with cU:=x.cU+1} rfl rfl λs g d=>A s ⟨g,d⟩))))
   | false=>exact aG (p.b.rI rfl (bZ (m:=x.fV+1) aA O (aG (p.st (i:=6) O {x with fV:=x.fV+1} rfl rfl λs g d=>A s ⟨g,d⟩))))
  ·have j:e≠0:=by simpa using z
   refine aG (p.b.rI rfl (bZ (m:=x.iy+1) aA O (aG (p.st O {x with iy:=x.iy+1} rfl rfl λs g d=>A s ⟨g,?_⟩))));have:x.count e gO = {x with iy:=x.iy+1}:=by unfold Me.count;exact zA j
   rw[this];exact d
theorem iR.rest (o:iR H H')(h:∀g∈H.bS,g.ph=none):∀g∈H'.bS,g.ph=none:=λg d=>by
 obtain⟨j,b⟩:=zL d;have a:=o.ph j;unfold gW at a;rw[b]at a;simp only[yZ]at a;rw[a];cases hk:H.bS[j]? with
 | none=>rfl
 | some g'=>exact h g' (zE hk)
def Me.gO (x:Me)(a size e:Int)(D:Nat):Me:=((if e=0 then(x.forget a).add a size else x).count e true).eM (D:Int)
def Me.jj (x:Me)(a e:Int)(D:Nat):Me:=((if e=0 then x.forget a else x).count e false).eM (D:Int)
def Md (P:Rg)(mb am:Nat):Rg:=λb=>P b\/b=mb\/b=am
set_option maxRecDepth 8000 in
theorem FR (p:MP σ0 σ L H held s0 P mb am x)(mi:ly x)(hc:x.calls<=899)(thread size align:Int){R:Int->Int->Hp->Prop}
 (hR:∀a e w ts H' held' s0' P',Ext (Md P mb am) σ w->MP σ0 w {L with ts:=ts} H' held' s0' P' mb am (x.gO a size e (H'.sp.st.count 2))->(∀b,P' b->P b\/σ.size<=b)->Qf H' H->uu H size align H' a e->Hg H thread 0 size align 0 H' a e->R a e w) :
 XF.c (aW mb) thread size align σ R:=by
 refine XF.o ?_;refine A3 p (cF rfl (aG (p.b.rP rfl ?_)));obtain⟨H',a,r,N,o,M⟩:=Nk p.hi thread size align;refine MB Ba p.h p.cf.2.2 N λv1 g Q E=>?_;obtain⟨held',s0',K⟩:=o.hi;have S:=p.step Q E K o.kp (o.rest p.ph);have G:∀b,Cut (Grow P σ) v1 b->P b\/σ.size<=b:=λb i=>i.1;have s:Ext (Md P mb am) σ v1:=Q.sub λb i=>.inl i;have y:∀{u u':Hp},Ext (λb=>b=mb\/b=am) u u'->Ext (Md P mb am) u u':=λe=>e.sub λb i=>.inr i;refine qi (λw=>Ext (Md P mb am) σ w/\MP σ0 w {L with ts:=g} H' held' s0' (Cut (Grow P σ) v1) mb am (if r=0 then(x.forget a).add a size else x)) (λw ⟨F,j⟩=>?_) λJ C=>?_
 ·refine aG (Jy j ?_ r true λw3 A B=>hR a r w3 g H' held' s0' _ (F.trans (y A)) B G o.kp M N);split<;>exact hc
 ·refine cH (λD=>?_) λD=>?_
  ·have d:r=0:=by simpa using D
   have hsz:1<=size/\size<=16384:=by
    rcases M with⟨E,_⟩|⟨_,_,h2,_⟩
    ·exact absurd d E
    ·exact⟨h2.1,h2.2.1⟩
   rw[zB d]at C;have hs:=mi.jg;have hv:0<=(bV x.asked a).getD 0/\(bV x.asked a).getD 0<=16384:=by
    cases hm:bV x.asked a with
    | none=>exact⟨rp _,by decide⟩
    | some z=>exact mi.v _ (KK hm)
   refine I2 S mi a λY F j=>aG (j.b.rM rfl ⟨am,_,rfl,j.m,λw3 o3 X=>?_⟩);have A:Ext (λb=>b=mb\/b=am) Y w3:=o3.ext.sub λb i=>.inr i;have B:MP σ0 w3 {L with ts:=g} H' held' s0' (Cut (Grow P σ) v1) mb am ⟨dE (cT x.asked a) a size,x.sum-(bV x.asked a).getD 0,x.dO,x.dL,x.cU,x.fV,x.iy⟩:=j.fQ A (o3.ext.cA j.b λ(Z:mb=am)=>p.ne Z) X;have V:(x.forget a).sum=x.sum-(bV x.asked a).getD 0:=rfl;refine aG (B.b.rI rfl (ar aC aC (aG (B.st O ((x.forget a).add a size) rfl rfl λW U p4=>C W ⟨((s.trans (y F)).trans (y A)).trans (y U),p4⟩))))
  ·have d:r≠0:=by simpa using D
   rw[zA d]at C;exact C v1 ⟨s,S⟩
set_option maxRecDepth 8000 in
theorem OA (p:MP σ0 σ L H held s0 P mb am x)(mi:ly x)(hc:x.calls<=899)(thread addr:Int)(hx:iF addr){R:aN}
 (hR:∀e w ts H' held' s0' P',Ext (Md P mb am) σ w->MP σ0 w {L with ts:=ts} H' held' s0' P' mb am (x.jj addr e (H'.sp.st.count 2))->(∀b,P' b->P b\/σ.size<=b)->Qf H' H->tZ H thread addr H' e->R e w) :
 Ze.c (aW mb) thread addr σ R:=by
 refine Ze.o ?_;refine A3 p (cF rfl (aG (p.b.rP rfl ?_)));obtain⟨H',d,K,o,N⟩:=TM p.hi thread addr hx;refine Wly Ba p.h p.cf.2.2 K λv1 g C E=>?_;obtain⟨held',s0',A⟩:=o.hi;have D:=p.step C E A o.kp (o.rest p.ph);have z:∀b,Cut (Grow P σ) v1 b->P b\/σ.size<=b:=λb j=>j.1;have i:Ext (Md P mb am) σ v1:=C.sub λb j=>.inl j;have B:∀{u u':Hp},Ext (λb=>b=mb\/b=am) u u'->Ext (Md P mb am) u u':=λe=>e.sub λb j=>.inr j;refine qi (λw=>Ext (Md P mb am) σ w/\MP σ0 w {L with ts:=g} H' held' s0' (Cut (Grow P σ) v1) mb am (if d=0 then x.forget addr else x)) (λw ⟨y,r⟩=>?_) λJ m=>?_
 ·refine aG (Jy r ?_ d false λM F G=>hR d M g H' held' s0' _ (y.trans (B F)) G z o.kp N);split<;>exact hc
 ·refine cH (λs=>?_) λs=>?_
  ·have a:d=0:=by simpa using s
   rw[zB a]at m;exact I2 D mi addr λQ y r=>m Q ⟨i.trans (B y),r⟩
  ·have a:d≠0:=by simpa using s
   rw[zA a]at m;exact m v1 ⟨i,D⟩
end Go.Ar