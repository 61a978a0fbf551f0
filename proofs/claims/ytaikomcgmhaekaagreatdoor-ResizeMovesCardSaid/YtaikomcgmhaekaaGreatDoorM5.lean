/- Texts joined. -/
import Derived.Test.YtaikomcgmhaekaaGreatDoorM4
set_option linter.unusedVariables false
set_option linter.unusedSimpArgs false
namespace Go.Ar
open Go Go.Vc Go.Proofs
variable {U:Hp}{F:Rg}{p q:Nat}{st:List Nat}
def jE (st:List Nat)(h:Nat):Nat:=Vt st h*100000+used st h*1000+(999-h)
def V4 (st:List Nat):List Nat:=(List.range (st.length/16)).filter λh=>0<gB st (16*h) (16*h+16) 2
theorem GT (st:List Nat)(h:Nat):used st h<=16:=by
 unfold used gB;refine zP yh ?_;rw[zL];omega
theorem y8 (st:List Nat)(h:Nat):Vt st h<=2:=by
 unfold Vt;split
 ·omega
 ·split<;>omega
theorem Ev {g h:Nat}(hg:g<=64)(hh:h<=64):An st g h=decide (jE st g<jE st h):=by
 have d:=GT st g;have b:=GT st h;have e:=y8 st g;have a:=y8 st h;unfold An jE;rw[nP];simp only[mQ,zF,zU,za];omega
theorem U5 {α:Type}{P Q:α->Bool}:∀{l:List α},(∀x∈l,P x=Q x)->l.takeWhile P=l.takeWhile Q
 | [],_=>rfl
 | x::l,h=>by
  rw[wy,wy,h x mY,U5 λy hy=>h y (mM _ hy)]
theorem U9 {α:Type}{P Q:α->Bool}:∀{l:List α},(∀x∈l,P x=Q x)->l.dropWhile P=l.dropWhile Q
 | [],_=>rfl
 | x::l,h=>by
  rw[Cr,Cr,h x mY,U9 λy hy=>h y (mM _ hy)]
theorem Uj (hl:st.length<=1024):∀h∈V4 st,16*h+16<=st.length/\h<=64:=by
 intro h hh;unfold V4 at hh;have:=(zH.1 hh).1;rw[ze]at this;omega
theorem US (hl:st.length<=1024):eJ st=Hv (jE st) (V4 st):=by
 have key:∀(l acc:List Nat),(∀x∈l,x<=64)->(∀x∈acc,x<=64)->l.foldl (mW st) acc=l.foldl (jq (jE st)) acc:=by
  intro l
  induction l with
  | nil=>intro acc _ _;rfl
  | cons h l ih=>
   intro acc h1 h2;have b:=h1 h mY;have e:mW st acc h=jq (jE st) acc h:=by
    unfold mW jq;rw[U5 λg d=>Ev (h2 g d) b,U9 λg d=>Ev (h2 g d) b]
   rw[lp,lp,e];refine ih _ (λx a=>h1 x (mM _ a)) λx a=>?_;rcases zW.1 ((AX acc h).mem_iff.1 a)with h3|h3
   ·rw[h3];exact b
   ·exact h2 x h3
 exact key _ [] (λx a=>(Uj hl x a).2) aA
theorem Sa (hl:st.length<=1024):(V4 st).Pairwise λa b=>jE st a≠jE st b:=by
 have d:(V4 st).Pairwise (· ≠ ·):=List.Pairwise.sublist rR List.nodup_range;refine List.Pairwise.imp_of_mem (λ{a b} e g i=>?_) d;have j:=(Uj hl a e).2;have m:=(Uj hl b g).2;have:=GT st a;have:=GT st b;unfold jE;omega
theorem Ed:∀{n m p:Nat},n<=m->(∀j,j<n->st[p+j]?=some 2)->(n=m\/st[p+n]?≠some 2)->gp st p m=n
 | 0,m,p,_,_,he=>by
  unfold gp;rcases he with h|h
  ·rw[←h];simp
  ·cases m with
   | zero=>simp
   | succ m=>
    cases hd:st[p]? with
    | none=>
     have:=List.getElem?_eq_none_iff.1 hd;rw[xO this];simp
    | some x=>
     have b:=(cV.1 hd).1;rw[qG b,rZ,BW]
     ·rfl
     ·have d:=(cV.1 hd).2;rw[d];intro h2;rw[zw,hd]at h;exact h (by simpa using h2)
 | n+1,m,p,hm,ha,he=>by
  have a:=ha 0 O;rw[zw]at a;have b:=(cV.1 a).1;have d:=(cV.1 a).2;have e:=Ed (n:=n) (m:=m-1) (p:=p+1) O (λj g=>by rw[show p+1+j=p+(j+1) by omega];exact ha _ O) (by
   rcases he with h|h
   ·left;omega
   ·right;rw[show p+1+n=p+(n+1) by omega];exact h)
  unfold gp at *;obtain⟨k,rfl⟩:∃k,m=k+1:=⟨m-1,O⟩;rw[qG b,rZ,List.takeWhile_cons_of_pos (by rw[d];rfl),zV];rw[Nat.add_sub_cancel]at e;rw[e]
theorem Iu (e:Nat):∀(f f' x:Nat),e-x<f->e-x<f'->Kq st e f x=Kq st e f' x:=by
 intro f
 induction f with
 | zero=>intro f' x h;omega
 | succ f ih=>
  intro f' x h1 h2;obtain⟨g,rfl⟩:∃g,f'=g+1:=⟨f'-1,O⟩;unfold Kq;by_cases hc:e<=x
  ·rw[zB hc,zB hc]
  ·rw[zA hc,zA hc];split
   ·exact ih g _ O O
   ·rw[ih g (x+gp st x (e-x)+1) O O]
theorem T1 {want:Int}{x:Nat}(h:want<=(x:Int)):∀l,gU want x l=[]
 | []=>rfl
 | r::l=>by unfold gU;rw[zB h]
theorem WnI {want:Int}{x:Nat}(h:¬want<=(x:Int))(r:Nat×Nat)(l:List (Nat×Nat)):gU want x (r::l)=r::gU want (x+r.2) l:=by
 show(if want<=(x:Int)then[]else r::gU want (x+r.2) l)=_
 rw[zA h]
theorem R6 {e x f:Nat}(hx:x<e)(hf:e-x<f):Kq st e f x=if gp st x (e-x)=0 then Kq st e f (x+1)else(x,gp st x (e-x))::Kq st e f (x+gp st x (e-x)+1):=by
 obtain⟨g,rfl⟩:∃g,f=g+1:=⟨f-1,O⟩;rw[Kq,zA O];split
 ·exact Iu e _ _ _ O O
 ·rw[Iu e g (g+1) _ O O]
theorem Ma {e x f:Nat}(hx:e<=x):Kq st e f x=[]:=by
 cases f with
 | zero=>rfl
 | succ f=>rw[Kq,zB hx]
theorem Px (h:gG U p q st){n2:Nat}(hb:bY U n2 [.pointer (some ⟨p,0,none⟩)]){Q:Rg}(hq:¬Q p/\¬Q q/\¬Q n2)(hl:st.length<=1024){l:List Nat}(hm:∀x∈l,16*x+16<=st.length) :
 uf ⟨194,#[],#[.pointer (some ⟨n2,0,none⟩)]⟩ (jE st) l Q U:=by
 intro x hx y hy σ' R e hR;refine oP (all := #[.int .i64 (x:Int),.int .i64 (y:Int),.pointer (some ⟨n2,0,none⟩)]) (by kernel_rfl) aA ?_;show XJ.c (x:Int) (y:Int) ⟨n2,0,none⟩ σ' R;refine XJ.o ?_;unfold XJ.v;have g:=h.bV e hq.1 hq.2.1;have i:=e.bX hb hq.2.2;have d:=hm x hx;have a:=hm y hy;have B:=GT st x;have C:=GT st y;have F:=y8 st x;have A:=y8 st y;refine⟨(· = σ'),rfl,⟨_,λm hm=>by rw[hm,i.cell];rfl,⟨_,λm hm=>by rw[hm,i.cell];rfl,?_⟩⟩⟩;refine vf g d λE=>⟨rfl,vf g a λD=>⟨rfl,Di g d (Di g a (ar O O ?_))⟩⟩;refine cU (λu=>?_) λu=>?_
 ·have r:((Vt st x:Nat):Int)-((Vt st y:Nat):Int)≠0:=by simpa using u
  refine hR _ σ' (Ext.refl _ _) ?_;unfold jE;omega
 ·have z:((Vt st x:Nat):Int)-((Vt st y:Nat):Int)=0:=by simpa using u
  refine g.uY (v:=1) d (g.uY (v:=1) a ?_);have s:gB st (16*x) (16*x+16) 1=used st x:=rfl;have j:gB st (16*y) (16*y+16) 1=used st y:=rfl;rw[s,j];refine ar O O (cU (λb=>?_) λb=>?_)
  ·have r:((used st x:Nat):Int)-((used st y:Nat):Int)≠0:=by simpa using b
   refine hR _ σ' (Ext.refl _ _) ?_;unfold jE;omega
  ·have w:((used st x:Nat):Int)-((used st y:Nat):Int)=0:=by simpa using b
   refine ar O O (hR _ σ' (Ext.refl _ _) ?_);unfold jE;omega
theorem LR (l:List (Nat×Nat))(r:Nat×Nat):rV (l++[r])=rV l++[.int .i64 (r.1:Int),.int .i64 (r.2:Int)]:=by simp[rV]
theorem Uk (n:Nat)(P:Nat->Bool):(List.range (n+1)).filter P=(List.range n).filter P++(if P n then[n]else[]):=by
 rw[kI,y5]
 congr 1
 cases h:P n<;>simp[h]
set_option maxRecDepth 4000 in
theorem LY (h:gG U p q st)(want:Int)(h12:(V4 st).length<=12){R:Sl->Int->Hp->Prop}(h0:want<0->∀σ',aG U σ'->R ⟨none,0,0⟩ 1 σ')
 (h1:¬want<0->∀s σ',aG U σ'->bR s 2 (rV (Gf st want)) σ' (λb=>U.size<=b)->R s 0 σ'):YK.c (aW p) want U R:=by
 refine YK.o ?_;unfold YK.v;have n2:=h.n2;refine nw (cs:=[.pointer (some ⟨p,0,none⟩)]) λu hz e L=>L.uI rfl (Hk (h.aF e) (bZ rfl (cL (λhw=>h0 hw u e) λhw=>?_)));have hu:=h.aF e;refine L.uI rfl (Bj hu ?_);refine Vu (a:=.s) (bb:=bN) (λ(A:Sl) (t:Int) v=>∃k:Nat,t=(k:Int)/\k<=st.length/16/\aG u v/\bR A 1 (ints ((List.range k).filter λh=>0<gB st (16*h) (16*h+16) 2)) v (λb=>u.size<=b)) (λ_ t _=>st.length/16-t.toNat)
  ⟨0,rfl,O,Ext.refl _ _,bR.nil _ _ _ _⟩ ?_
 rintro A t v ⟨k,rfl,hk,ev,B⟩;have hv:=hu.aF ev;have hbv:=ev.bX L id;refine cL (λhlt=>?_) λhge=>?_
 ·have G:16*k+16<=st.length:=by omega
  have hlen:=B.jV;have hfl:((List.range k).filter λh=>0<gB st (16*h) (16*h+16) 2).length<=k:=zP (ny _ _) (by rw[rm];omega);refine hbv.uI rfl (vf hv G λc=>hv.uY (v:=2) G (cL (λhc=>?_) λhc=>?_))
  ·have M:0<gB st (16*k) (16*k+16) 2:=by omega
   refine B.push (vs:=[.int .i64 (k:Int)]) (λb L=>zP ev.1 L) rfl rfl (by simp[dJ]) O O λs' v' hl' e' Y=>?_;refine cC (m:=k+1) O O ⟨⟨k+1,rfl,O,Ext.fresh ev e' λi hi=>hi,?_⟩,O⟩;rw[Uk,zB (by simpa using M),VJ];exact Y
  ·refine cC (m:=k+1) O O ⟨⟨k+1,rfl,O,ev,?_⟩,O⟩;rw[Uk,zA aE,j7];exact B
 have hkk:k=st.length/16:=by omega
 subst hkk;have hplt:=h.lt;have hcmp:=Px hv hbv (Q:=λb=>u.size<=b) ⟨O,O,O⟩ n2 (l:=V4 st) λx hx=>(Uj n2 x hx).1;refine Mm B h12 (Sa n2) hcmp λw ew K=>?_;have K:bR A 1 (ints (Hv (jE st) (V4 st))) w (λb=>u.size<=b):=K;rw[←US n2]at K;have F:aG u w:=Ext.fresh ev ew λi hi=>hi;have hT:=hu.aF F;have hbw:=F.bX L id;have hol:=K.jV;have hmem:∀x∈eJ st,16*x+16<=st.length:=λx hx=>by
  rw[US n2]at hx;exact(Uj n2 x ((Vb _).mem_iff.1 hx)).1
 have hlen12:(eJ st).length<=12:=by rw[US n2,(Vb _).length_eq];exact h12
 have hslo:=aH.cut K.fM;refine Lc (a:=.s) (bb:=bN) (c:=bN) (λ(out:Sl) (d:Int) (t:Int) v=>∃(k:Nat) (D:List (Nat×Nat)) (m:Nat),t=(k:Int)/\k<=(eJ st).length/\d=(m:Int)/\m<=16*k/\D.length<=16*k/\aG w v/\bR out 2 (rV D) v (λb=>w.size<=b)/\D++gU want m (((eJ st).drop k).flatMap (Vs st))=Gf st want) (λ_ _ t _=>(eJ st).length-t.toNat)
  ⟨0,[],0,rfl,O,rfl,O,by simp,Ext.refl _ _,bR.nil _ _ _ _,by simp[Gf]⟩ ?_
 rintro out d t v ⟨k,D,m,rfl,hk,rfl,hm,hD,H,S,J⟩;have hTv:=hT.aF H;have hbv2:=H.bX hbw id;refine cL (λhlt=>?_) λhge=>?_
 ·have G:k<(eJ st).length:=by omega
  have hx:(eJ st)[k]?=some (eJ st)[k]:=cQ G;have hxm:=hmem _ (zb G);have m6:(eJ st).drop k=(eJ st)[k]::(eJ st).drop (k+1):=qG G;rw[m6,mU]at J;generalize (eJ st)[k]=x at *;have hsl2:=aH.aF hslo H;refine hsl2.oO hx ?_;refine Lc (a:=.s) (bb:=bN) (c:=bN) (λ(out:Sl) (d:Int) (t:Int) z=>∃(i:Nat) (D:List (Nat×Nat)) (m:Nat),t=(i:Int)/\i<=17/\d=(m:Int)/\m<=16*k+i/\m<=16*k+16/\D.length<=16*k+i/\D.length<=16*k+16/\aG w z/\bR out 2 (rV D) z (λb=>w.size<=b)/\D++gU want m (Kq st (16*x+16) 17 (16*x+i)++((eJ st).drop (k+1)).flatMap (Vs st))=Gf st want) (λ_ _ t _=>20-t.toNat)
   ⟨0,D,m,rfl,O,rfl,O,O,O,O,H,S,by simpa[Vs]using J⟩ ?_
  rintro C g t2 z ⟨i,D2,m2,rfl,hi,rfl,hm1,hm2,hD1,hD2,W,E,r⟩;have hTz:=hT.aF W;have hbz:=W.bX hbw id;have hlz:C.len=D2.length:=by have:=E.1;rw[y6]at this;omega
  refine cL (λhlt3=>?_) λhge3=>?_
  ·have hi':i<16:=by omega
   refine cL (λhdone=>?_) λhgo=>?_
   ·rw[T1 O,j7]at r;rw[r]at E;exact h1 hw C z ((Ext.trans e F).trans W) (aI.mono E λb _ L=>by have:=(Ext.trans e F).1;omega)
   ·refine Zw (a:=bN) (λ(t:Int) y=>y=z/\∃n:Nat,t=(n:Int)/\i+n<=16/\∀j,j<n->st[16*x+i+j]?=some 2) (λt _=>20-t.toNat) ⟨rfl,0,rfl,O,λj hj=>O⟩ ?_;rintro t3 y ⟨rfl,n,rfl,hn,P⟩;have N:(i+n=16\/st[16*x+i+n]?≠some 2)->If (decide ((n:Int)>0)) (Ar .i64 ((x:Int)*16) λt73=>Ar .i64 (t73+(i:Int)) λt75=>Nw (.cells #[.int .i64 t75,.int .i64 (n:Int)] 246 (0,0)) y λn78 v13=>
     App C 2 16 246 [.int .i64 0,.int .i64 0] ⟨some n78,1,1⟩ v13 λaa v14=>Ar .i64 ((m2:Int)+(n:Int)) λg=>Ar .i64 ((i:Int)+(n:Int)) λi1=>Ar .i64 (i1+1) λi2=>
     (∃(i:Nat) (D:List (Nat×Nat)) (m:Nat),i2=(i:Int)/\i<=17/\g=(m:Int)/\m<=16*k+i/\m<=16*k+16/\D.length<=16*k+i/\D.length<=16*k+16/\aG w v14/\bR aa 2 (rV D) v14 (λb=>w.size<=b)/\D++gU want m (Kq st (16*x+16) 17 (16*x+i)++((eJ st).drop (k+1)).flatMap (Vs st))=Gf st want)/\20-i2.toNat<20-(i:Int).toNat)
     (Ar .i64 ((i:Int)+1) λi3=>(∃(i:Nat) (D:List (Nat×Nat)) (m:Nat),i3=(i:Int)/\i<=17/\(m2:Int)=(m:Int)/\m<=16*k+i/\m<=16*k+16/\D.length<=16*k+i/\D.length<=16*k+16/\aG w y/\bR C 2 (rV D) y (λb=>w.size<=b)/\D++gU want m (Kq st (16*x+16) 17 (16*x+i)++((eJ st).drop (k+1)).flatMap (Vs st))=Gf st want)/\20-i3.toNat<20-(i:Int).toNat):=by
     intro hst;have hrl:gp st (16*x+i) (16*x+16-(16*x+i))=n:=Ed O P (by
      rcases hst with h|h
      ·left;omega
      ·right;exact h)
     rw[R6 O O,hrl]at r;refine cL (λM=>?_) λhz0=>?_
     ·rw[zA O,lT,WnI O]at r;refine cC (m:=x*16) O O (cC (m:=16*x+i) O O ?_);refine E.push (vs:=[.int .i64 ((16*x+i:Nat):Int),.int .i64 (n:Int)]) (λb L=>zP W.1 L) rfl rfl (by simp[dJ]) O O λs' v' hl' e' Y=>?_;refine cC (m:=m2+n) O O (cC (m:=i+n) O O (cC (m:=i+n+1) O O ⟨⟨i+n+1,D2++[(16*x+i,n)],m2+n,rfl,O,rfl,O,O,by simp;omega,?_,Ext.fresh W e' λi hi=>hi,?_,?_⟩,O⟩))
      ·simp;have:D2.length<16*k+16:=by omega
       omega
      ·rw[LR];exact Y
      ·rw[←r,zm,show 16*x+(i+n+1)=16*x+i+n+1 by omega];rfl
     ·rw[zB O]at r;exact cC (m:=i+1) O O ⟨⟨i+1,D2,m2,rfl,O,rfl,O,O,O,O,W,E,r⟩,O⟩
    refine cC (m:=i+n) O O (bW.intro (cL (λhc4=>?_) λhc4=>bZ rfl (N (.inl O))));refine hbz.uI rfl (vf hTz hxm λc=>cC (m:=i+n) O O ?_);have hidx:16*x+i+n<st.length:=by omega
    have V:st[16*x+i+n]?=some st[16*x+i+n]:=cQ hidx;have Z:=hTz.part (s:=⟨some ⟨q,16*x,none⟩,16,c⟩) (n:=16) rfl rfl hxm;refine Z.oO (i:=i+n) (x:=st[16*x+i+n]) ?_ ?_
    ·rw[zY,zB O,zn,show 16*x+(i+n)=16*x+i+n by omega];exact V
    have e2:(((st[16*x+i+n]:Nat):Int)==2)=(st[16*x+i+n]==2):=jg _ 2;rw[e2];refine cU (λX=>?_) λX=>?_
    ·have h2:st[16*x+i+n]=2:=by simpa using X
     refine cC (m:=n+1) O O ⟨⟨rfl,n+1,rfl,O,λj hj=>?_⟩,O⟩;by_cases hjn:j=n
     ·subst hjn;rw[V,h2]
     ·exact P j O
    ·have h2:st[16*x+i+n]≠2:=by simpa using X
     refine N (.inr ?_);rw[V];intro e5;exact h2 (Option.some.inj e5)
  ·rw[Ma O,qv]at r;exact cC (m:=k+1) O O ⟨⟨k+1,D2,m2,rfl,O,rfl,O,O,W,E,r⟩,O⟩
 ·have:k=(eJ st).length:=by omega
  subst this;rw[List.drop_length,List.flatMap_nil]at J;have:gU want m []=[]:=rfl;rw[this,j7]at J;rw[J]at S;exact h1 hw out v ((Ext.trans e F).trans H) (aI.mono S λb _ L=>by have:=(Ext.trans e F).1;omega)
end Go.Ar
namespace Go.Ar
open Go Go.Vc Go.Proofs
open Go.Bu (YS Q8 Zx)
variable {U:Hp}{F H:Rg}{p hs:Nat}{A:AR}{sp:Sp}{Y:Lay}{T:Nat->Hp->Rg->Prop}
theorem Io {want:Int}:∀(x:Nat) (l:List (Nat×Nat)),(gU want x l).length<=l.length/\∀r∈gU want x l,r∈l
 | _,[]=>⟨zC _,λr h=>h⟩
 | x,r::l=>by
  have ih:=Io (want:=want) (x+r.2) l;show(if want<=(x:Int)then[]else r::gU want (x+r.2) l).length<=_/\∀q∈(if want<=(x:Int)then[]else r::gU want (x+r.2) l),_
  split
  ·exact⟨Nat.zero_le _,λq h=>by simp at h⟩
  ·refine⟨by simp only[zV];omega,λq a=>?_⟩;rcases zW.1 a with h|h
   ·subst h;exact mY
   ·exact mM _ (ih.2 q h)
theorem UJ {st:List Nat}{e:Nat}:∀(f x:Nat),(Kq st e f x).length<=f/\∀r∈Kq st e f x,r.1+r.2<=e
 | 0,x=>⟨zC _,λr h=>by simp[Kq]at h⟩
 | f+1,x=>by
  have h1:=UJ (st:=st) (e:=e) f (x+1);have a:=UJ (st:=st) (e:=e) f (x+gp st x (e-x)+1);have d:gp st x (e-x)<=e-x:=by
   unfold gp;refine zP (List.takeWhile_sublist _).length_le ?_;rw[zL];omega
  unfold Kq;split
  ·exact⟨Nat.zero_le _,λr h=>by simp at h⟩
  ·split
   ·exact⟨by have:=h1.1;omega,h1.2⟩
   ·refine⟨by simp only[zV];have:=a.1;omega,λr b=>?_⟩;rcases zW.1 b with h|h
    ·subst h;simp only;omega
    ·exact a.2 r h
theorem MI {st:List Nat}(hl:st.length<=1024)(want:Int):(Gf st want).length<=2000/\∀r∈Gf st want,r.1+r.2<=st.length:=by
 have hp:∀x∈eJ st,16*x+16<=st.length:=λx a=>by
  rw[US hl]at a;exact(Uj hl x ((Vb _).mem_iff.1 a)).1
 have j:(eJ st).length<=64:=by
  rw[US hl,(Vb _).length_eq];refine zP (ny _ _) ?_;rw[rm];omega
 have d:∀l:List Nat,(l.flatMap (Vs st)).length<=17*l.length:=by
  intro l
  induction l with
  | nil=>simp
  | cons x l ih=>
   rw[mU,zR,zV];have:=(UJ (st:=st) (e:=16*x+16) 17 (16*x)).1;have e:Vs st x=Kq st (16*x+16) 17 (16*x):=rfl;rw[e];omega
 have g:=Io (want:=want) 0 ((eJ st).flatMap (Vs st));refine⟨?_,λr i=>?_⟩
 ·have:=d (eJ st);have:=g.1;unfold Gf;omega
 ·have:=g.2 r i;rw[r6]at this;obtain⟨x,a,b⟩:=this;have p:=(UJ (st:=st) (e:=16*x+16) 17 (16*x)).2 r b;have m:=hp x a;omega
def og (want:Int):Int:=if want<0 then 1 else 0
theorem RJ (h:W2 U F H Y A T sp)(want:Int)(h12:(V4 (YP A).st).length<=12){R:Int->Int->Hp->Prop}(hR:∀σ' F' H',Fits U F H F' H'->Ext (gN F H) U σ'->W2 σ' F' H' Y (dV A sp want).1 T (dV A sp want).2->R ((kx A want:Nat):Int) (og want) σ') :
 Xi.c (aW Y.p) want U R:=by
 refine Xi.o ?_;unfold Xi.v;refine VB h.a (bZ rfl (cL (λG=>?_) λG=>bO (h.a.hd.rS rfl (OJ h.a rfl λv e hA=>?_))))
 ·have e1:dV A sp want=(A,sp):=by unfold dV;rw[zB G]
  have e2:kx A want=0:=by unfold kx;rw[zB G]
  have e3:og want=1:=by unfold og;rw[zB G]
  have:=hR U F H Fits.refl (Ext.refl _ _) (by rw[e1];exact h);rw[e2,e3]at this;exact this
 have e1:dV A sp want=(Gf (YP A).st want).foldl fK (YP A,sp):=by unfold dV;rw[zA G];rfl
 have e2:kx A want=((Gf (YP A).st want).map (·.2)).sum:=by unfold kx;rw[zA G];rfl
 have e3:og want=0:=by unfold og;rw[zA G]
 rw[e1,e2,e3]at hR;have hW:=h.ns e hA;have Q:(YP A).st.length<=1024:=by have:=hA.lay.st;have:=hA.lay.n2;omega
 obtain⟨_,_,q,hT,_⟩:=hW.a.l4;refine bO (hW.a.hd.rP rfl (LY hT want h12 (λZ=>absurd Z G) λ_ s v1 D J=>?_));have d:=MI Q want;generalize Gf (YP A).st want=P at *;have hlen:s.len=P.length:=by have:=J.1;rw[y6]at this;omega
 have N:=hW.cut.aF D;refine bZ rfl (bO (N.a.hd.rP rfl (bO (N.Ag ?_))));refine nw (cs:=[.func (.func 142) #[.pointer (some ⟨Y.tr,0,none⟩)] #[],.func (.func 143) #[.pointer (some ⟨Y.hs,0,none⟩)] #[]]) λv2 hz2 K hb2=>?_;have hW2:=N.aF K;have esz1:=D.1;have es:∀{a b:Hp},Ext (Cut (Cut H U) v) a b->Ext (gN F H) a b:=λe=>e.sub λb d=>.inr d.1.1;have ea:∀{a b:Hp},Ext (Cut (Grow F U) v) a b->Ext (gN (Grow F U) H) a b:=λe=>e.sub λb d=>.inl d.1;have ad:∀{a b:Hp},Ext (Cut (Cut H U) v) a b->Ext (gN (Grow F U) H) a b:=λe=>e.sub λb d=>.inr d.1.1;have nF:∀b,v.size<=b->¬Cut (Grow F U) v b:=λb d hc=>by have:=hc.2;omega
 have nH:∀b,v.size<=b->¬Cut (Cut H U) v b:=λb d hc=>by have:=hc.2;omega
 have hs2:cS s 2 (rV P) v2 (λb=>v.size<=b):=aH.aF J.fM K;refine Vu (a:=bN) (bb:=bN) (λ(aa:Int) (t:Int) w=>∃i:Nat,t=(i:Int)/\i<=P.length/\aa=(((P.take i).map (·.2)).sum:Nat)/\((P.take i).map (·.2)).sum<=1024*i/\Ext (gN (Grow F U) H) v w/\W2 w (Cut (Grow F U) v) (Cut (Cut H U) v) Y ((P.take i).foldl fK (YP A,sp)).1 T ((P.take i).foldl fK (YP A,sp)).2/\cS s 2 (rV P) w (λb=>v.size<=b)/\bY w v1.size [.func (.func 142) #[.pointer (some ⟨Y.tr,0,none⟩)] #[],.func (.func 143) #[.pointer (some ⟨Y.hs,0,none⟩)] #[]]) (λ_ t _=>P.length-t.toNat)
  ⟨0,rfl,O,rfl,by simp,(aG.to D).lH K,hW2,hs2,hb2⟩ ?_
 rintro aa t w ⟨i,rfl,hi,rfl,hsum,ew,M,ab,hbw⟩;refine cL (λZ=>?_) λhge=>?_
 ·have W:i<P.length:=by omega
  have hx:P[i]?=some P[i]:=cQ W;have X:P.take (i+1)=P.take i++[P[i]]:=by rw[zj,hx];rfl
  have hbr:=d.2 _ (zb W);generalize P[i]=r at *;refine ER ab hx ?_;refine nw (cs:=[.int .i64 0,.int .i64 0]) λv4 hz4 e4 ae=>ae.s1 aA λv5 o5 b5=>b5.s1 aA λv6 o6 b6=>?_;have C:aG w v6:=Ext.fresh (Ext.fresh e4 o5.ext λi hi=>O) o6.ext λi hi=>by omega
  have b6':bY v6 w.size [.int .i64 (r.1:Int),.int .i64 (r.2:Int)]:=b6;have hW6:=M.aF C;have V:=C.bX hbw id;have ac:=aH.aF ab C;have S:v.size<=w.size:=ew.1;have E:v.size<=v1.size:=D.1;refine Zw (a:=bN) (λ(t:Int) z=>∃j:Nat,t=(j:Int)/\j<=2/\Ext (gN (Grow F U) H) v z/\W2 z (Cut (Grow F U) v) (Cut (Cut H U) v) Y (if j=0 then((P.take i).foldl fK (YP A,sp)).1 else(fK ((P.take i).foldl fK (YP A,sp)) r).1) T (if j<=1 then((P.take i).foldl fK (YP A,sp)).2 else(fK ((P.take i).foldl fK (YP A,sp)) r).2)/\cS s 2 (rV P) z (λb=>v.size<=b)/\bY z v1.size [.func (.func 142) #[.pointer (some ⟨Y.tr,0,none⟩)] #[],.func (.func 143) #[.pointer (some ⟨Y.hs,0,none⟩)] #[]]/\bY z w.size [.int .i64 (r.1:Int),.int .i64 (r.2:Int)]) (λt _=>2-t.toNat)
   ⟨0,rfl,O,ew.lH C,hW6,ac,V,b6'⟩ ?_
  rintro t z ⟨j,rfl,hj,ez,u,ir,x,L⟩;refine cL (λhlt2=>?_) λhge2=>?_
  ·have hj2:j=0\/j=1:=by omega
   rcases hj2 with rfl|rfl
   ·refine ix O O ?_;refine⟨⟨142,#[.pointer (some ⟨Y.tr,0,none⟩)],#[]⟩,by rw[add_lit,x.cell];rfl,L.rI rfl (L.rI rfl ?_)⟩;refine oP (all := #[.pointer (some ⟨Y.tr,0,none⟩),.int .i64 (r.1:Int),.int .i64 (r.2:Int)]) (by kernel_rfl) aA ?_;rw[zB rfl,zB O]at u;show Xd.c (aW Y.tr) (r.1:Int) (r.2:Int) z _;refine u.a.Rel _ _ λz2 t2 y hA5=>?_;refine cC (m:=1) O O ⟨⟨1,rfl,O,ez.trans (ea y),?_,aH.bV ir y λb _ d=>nF b d,y.bX x (nF _ E),y.bX L (nF _ S)⟩,O⟩;rw[zA O,zB O];exact u.jX y hA5
   ·refine ix O O ?_;refine⟨⟨143,#[.pointer (some ⟨Y.hs,0,none⟩)],#[]⟩,by rw[add_lit,x.cell];rfl,L.rI rfl (L.rI rfl ?_)⟩;refine oP (all := #[.pointer (some ⟨Y.hs,0,none⟩),.int .i64 (r.1:Int),.int .i64 (r.2:Int)]) (by kernel_rfl) aA ?_;rw[zA O,zB O]at u;show XF.c (aW Y.hs) (r.1:Int) (r.2:Int) z _;refine LN u.s u.g u.o2 _ _ λz2 y hS5=>?_;refine cC (m:=2) O O ⟨⟨2,rfl,O,ez.trans (ad y),?_,aH.bV ir y λb _ d=>nH b d,y.bX x (nH _ E),y.bX L (nH _ S)⟩,O⟩;rw[zA O,zA O];exact u.space y hS5
  ·have hjj:j=2:=by omega
   subst hjj;rw[zA O,zA O]at u;have B:((P.take (i+1)).map (·.2)).sum=((P.take i).map (·.2)).sum+r.2:=by rw[X];simp
   refine L.rI rfl (cC (m:=((P.take i).map (·.2)).sum+r.2) O O (cC (m:=i+1) O O ⟨⟨i+1,rfl,O,by rw[B],by rw[B];omega,ez,?_,ir,x⟩,O⟩));rw[X,lb];exact u
 ·have:i=P.length:=by omega
  subst this;rw[zy]at M ⊢;refine hR w (Cut (Grow F U) v) (Cut (Cut H U) v) ⟨λb d=>d.1,λb d=>d.1.1⟩ ((e.sub λb d=>.inl d).eY ew λb d=>?_) M;rcases d with(d|d)|d
  ·exact .inl (.inl d)
  ·exact .inr d
  ·exact .inl (.inr d)
theorem dA.qI (h:dA U F Y A T){i:Nat}{c:CK}{x:c.T}(hx:(iZ Y)[i]?=some (c.v x)){K:c.T->Prop}(hK:K x):fR (λm=>aG U m) c (Addr.add ⟨Y.p,0,none⟩ i) K:=by
 refine⟨x,λm a=>?_,hK⟩;rw[add_lit,(Ext.bX a h.hd id).cell,zG];exact hx
theorem dA.cF (h:dA U F Y A (cA A Y)){k q:Nat}{c:cD}{t:gg}(h1:Y.fT[k]?=some q)(h2:A.tb[k]?=some c)(h3:A.cF[k]?=some t):∃G:Rg,(∀b,G b->F b)/\ij U G q c.batch A.room t:=by
 obtain⟨G,a,d,_⟩:=h.tZ h1 h2 h3;exact⟨G,a,d⟩
def part {α:Type}(f:cD->α->Nat)(tb:List cD)(l:List α)(i:Nat):Nat:=(((tb.zip l).take i).map λx=>f x.1 x.2).sum
end Go.Ar
namespace Go.Ar
open Go Go.Vc Go.Proofs
variable {U:Hp}
theorem EB:∀(xs:List (Int×Int×Int)),vd xs=true↔∀(i:Nat) a b,xs[i]?=some a->xs[i+1]?=some b->a.1<b.1
 | []=>by simp[vd]
 | [x]=>by simp[vd]
 | x::y::l=>by
  have ih:=EB (y::l);show(decide (x.1<y.1)&&vd (y::l))=true↔_;rw[zF,ih,zU];constructor
  ·rintro⟨h1,h2⟩ i a b d e;cases i with
   | zero=>simp at d e;subst d;subst e;exact h1
   | succ i=>exact h2 i a b (by simpa using d) (by simpa using e)
  ·intro h;exact⟨h 0 x y rfl rfl,λi a b d e=>h (i+1) a b (by simpa using d) (by simpa using e)⟩
theorem Qr (xs:List (Int×Int×Int)):QM xs=true↔1<=xs.length/\xs.length<=40/\(∀(i:Nat) t,xs[i]?=some t->U3 t.1 t.2.1 t.2.2=true)/\∀(i:Nat) a b,xs[i]?=some a->xs[i+1]?=some b->a.1<b.1:=by
 unfold QM;simp only[zF,zU,EB,kK];constructor
 ·rintro⟨h1,h2,h3,h4⟩;exact⟨h1,h2,λi t d=>h3 t (zE d),h4⟩
 ·rintro⟨h1,h2,h3,h4⟩;exact⟨h1,h2,λt d=>by obtain⟨i,e⟩:=zN d;exact h3 i t e,h4⟩
theorem Aq {s:Sl}{xs:List (Int×Int×Int)}(ha:iB U s xs){R:aO}(hR:∀σ',aG U σ'->R (QM xs) σ'):ZU.c s U R:=by
 refine ZU.o ?_;unfold ZU.v;have L:∀σ',aG U σ'->¬(1<=xs.length/\xs.length<=40/\(∀(i:Nat) t,xs[i]?=some t->U3 t.1 t.2.1 t.2.2=true)/\∀(i:Nat) a b,xs[i]?=some a->xs[i+1]?=some b->a.1<b.1)->R false σ':=λσ' e hn=>by
  have:=hR σ' e;have hf:QM xs=false:=by rw[←pY,Qr];exact hn
  rw[hf]at this;exact this
 have V:=ha.1;refine bW.intro (cL (λc1=>cJ rfl (L U (Ext.refl _ _) λh=>O)) λc1=>?_);refine cL (λc2=>L U (Ext.refl _ _) λh=>O) λc2=>?_;refine Zw (a:=bN) (λ(t:Int) v=>∃i:Nat,t=(i:Int)/\i<=xs.length/\aG U v/\(∀(j:Nat) t,j<i->xs[j]?=some t->U3 t.1 t.2.1 t.2.2=true)/\∀(j:Nat) a b,j+1<i->xs[j]?=some a->xs[j+1]?=some b->a.1<b.1) (λt _=>xs.length-t.toNat)
  ⟨0,rfl,O,Ext.refl _ _,λj t h=>O,λj a b h=>O⟩ ?_
 rintro t v ⟨i,rfl,K,e,Y,Z⟩;have M:=Qg ha e;refine cL (λhlt=>?_) λhge=>?_
 ·have P:i<xs.length:=by omega
  have B:xs[i]?=some xs[i]:=cQ P;generalize xs[i]=r at B;obtain⟨x,y,z⟩:=r;refine Ak M B ?_;refine nw (cs:=[.int .i64 0,.int .i64 0,.int .i64 0]) λv2 hz2 e2 b2=>b2.s1 aA λv3 o3 b3=>b3.s1 aA λv4 o4 b4=>b4.s1 aA λv5 o5 H=>?_;have e5:aG v v5:=Ext.fresh (Ext.fresh (Ext.fresh e2 o3.ext λi K=>O) o4.ext λi K=>O) o5.ext λi K=>by omega
  refine Jn.intro ⟨(· = v5),rfl,⟨x,λm G=>by rw[G,add_lit,H.cell];rfl,⟨y,λm G=>by rw[G,add_lit,H.cell];rfl,⟨z,λm G=>by rw[G,add_lit,H.cell];rfl,?_⟩⟩⟩⟩;refine J9 x y z λv7 W=>?_;have w:=(Ext.trans e e5).trans W;have C:(U3 x y z=false\/∃a,0<i/\xs[i-1]?=some a/\x<=a.1)->R false v7:=λN=>L v7 w λJ=>by
   rcases N with N|⟨a,hp,hb1,hb2⟩
   ·have:=J.2.2.1 i _ B;simp only at this;rw[N]at this;cases this
   ·have:=J.2.2.2 (i-1) a (x,y,z) hb1 (by rw[show i-1+1=i by omega];exact B);simp only at this;omega
  cases hc:U3 x y z
  ·exact cJ rfl (cJ rfl (C (.inl hc)))
  ·have next:(∀a,0<i->xs[i-1]?=some a->a.1<x)->Ar .i64 ((i:Int)+1) λg=>(∃i:Nat,g=(i:Int)/\i<=xs.length/\aG U v7/\(∀(j:Nat) t,j<i->xs[j]?=some t->U3 t.1 t.2.1 t.2.2=true)/\∀(j:Nat) a b,j+1<i->xs[j]?=some a->xs[j+1]?=some b->a.1<b.1)/\xs.length-g.toNat<xs.length-(i:Int).toNat:=by
    intro hp;refine cC (m:=i+1) O O ⟨⟨i+1,rfl,O,w,λj t hj A=>?_,λj a b hj p d=>?_⟩,O⟩
    ·by_cases hji:j=i
     ·subst hji;rw[B]at A;cases A;exact hc
     ·exact Y j t O A
    ·by_cases hji:j+1=i
     ·subst hji;rw[B]at d;cases d;exact hp a O p
     ·exact Z j a b O p d
   refine bZ rfl (cL (λhp=>?_) λhp=>bZ rfl (next λa kJ=>O))
   have u:xs[i-1]?=some (xs[i-1]' O):=cQ _;generalize xs[i-1]' O=r at u;obtain⟨Q,y',z'⟩:=r;have E:=Qg ha w;obtain⟨b,o,g1,g2,g3,g4,g5⟩:=E.2 (i-1) Q y' z' u;have X:=W.bX H id;refine cC (m:=i-1) O O ?_;rw[g1];refine ix O O ?_;have D:cell v7 ⟨b,o+(((i-1:Nat):Int)).toNat*3+0,none⟩=some (.int .i64 Q):=by simpa using g3
   have fin:If (decide (x<=Q)) (R false v7) (Ar .i64 ((i:Int)+1) λg=>(∃i:Nat,g=(i:Int)/\i<=xs.length/\aG U v7/\(∀(j:Nat) t,j<i->xs[j]?=some t->U3 t.1 t.2.1 t.2.2=true)/\∀(j:Nat) a b,j+1<i->xs[j]?=some a->xs[j+1]?=some b->a.1<b.1)/\xs.length-g.toNat<xs.length-(i:Int).toNat):=by
    refine cL (λS=>C (.inr ⟨_,O,u,S⟩)) λaa=>next λa _ F=>?_
    rw[u]at F;cases F;simp only;omega
   rw[add_lit b o];exact⟨X.rI rfl (hO D fin),hO D (X.rI rfl fin)⟩
 ·have:i=xs.length:=by omega
  subst this;have J:QM xs=true:=(Qr xs).2 ⟨O,O,λi t A=>Y i t (cV.1 A).1 A,λi a b p d=>Z i a b (cV.1 d).1 p d⟩;have:=hR v e;rw[J]at this;exact this
end Go.Ar
namespace Go.Ar
open Go Go.Vc Go.Proofs
open Go.Bu (YS Q8 Zx)
variable {U:Hp}{F H:Rg}{p hs:Nat}{A:AR}{sp:Sp}{Y:Lay}{T:Nat->Hp->Rg->Prop}
open Classical in
theorem _root_.Go.Vc.Sep.put {L:Type}{C C':L->Hp->Rg->Prop}{U:Hp}{F G:Rg}(hC:∀i,dH (C i))(h:Sep C U F)(i:L)(hd:∀b,G b->¬F b)(hj:∀j,j≠i->C' j=C j)(hi:C' i U G)(hL:dH (C' i)):Sep C' U λb=>F b\/G b:=by
 obtain⟨ρ,h⟩:=h;refine⟨λb=>if G b then i else ρ b,λj=>?_⟩
 by_cases hji:j=i
 ·subst hji;exact hL.mono hi λb _ d=>⟨.inr d,zB d⟩
 ·rw[hj j hji];refine(hC j).mono (h j) λb _ a=>⟨.inl a.1,?_⟩;show(if G b then i else ρ b)=j
  rw[zA λe=>hd b e a.1];exact a.2
def fA (A:AR)(Y:Lay)(T:Nat->Hp->Rg->Prop)(cs:List Value):Lb->Hp->Rg->Prop
 | .hd=>gR Y.p cs
 | i=>AC A Y T i
theorem fA.loc {cs:List Value}(hT:∀k,dH (T k)):∀i,dH (fA A Y T cs i)
 | .hd=>gR.loc _ _
 | .cH=>AC.loc (A:=A) (Y:=Y) hT .cH
 | .free=>AC.loc (A:=A) (Y:=Y) hT .free
 | .l4=>AC.loc (A:=A) (Y:=Y) hT .l4
 | .own=>AC.loc (A:=A) (Y:=Y) hT .own
 | .dF=>AC.loc (A:=A) (Y:=Y) hT .dF
 | .cK=>AC.loc (A:=A) (Y:=Y) hT .cK
 | .runs=>AC.loc (A:=A) (Y:=Y) hT .runs
 | .cI k=>AC.loc (A:=A) (Y:=Y) hT (.cI k)
 | .cF k=>AC.loc (A:=A) (Y:=Y) hT (.cF k)
theorem E9:fA A Y T (iZ Y)=AC A Y T:=by
 funext i;cases i<;>rfl
theorem Dx {cs:List Value}(hT:∀k,dH (T k))(h:Sep (fA A Y T cs) U F)(hlen:A.cI.length<=Y.eU.length)(hl:Y.eU.length<=40){vb cp ty:Nat}(hb:bY U vb [.pointer (some ⟨cp,0,none⟩)])(hvb:¬F vb){K:Sl->Hp->Prop}
 (hK:∀s' σ',Ext F U σ'->Sep (fA A {Y with dF:=s',eU:=Y.eU++[cp]} T cs) σ' (Grow F U)->K s' σ'):App Y.dF 1 8 ty [.pointer none] ⟨some ⟨vb,0,none⟩,1,1⟩ U K:=by
 obtain⟨G,g,d,_,a⟩:=h.jx (fA.loc hT) .dF;have d:bR Y.dF 1 (eB Y.eU) U G:=d;have r:Y.dF.len=Y.eU.length:=by have:=d.1;simp[eB]at this;omega
 refine d.app (ys:=[.pointer (some ⟨cp,0,none⟩)]) rfl rfl ?_ (by simp[dJ]) aC aC mu λs' σ' i e m=>hK s' σ' (e.sub g) ?_
 ·intro j u hu;rw[add_lit,zG,hb.cell];exact hu
 refine(Sep.loc (fA.loc hT)).mono (a σ' (fA A {Y with dF:=s',eU:=Y.eU++[cp]} T cs) (Grow G U) (λj p=>?_) e (λb hb=>hb) ?_ (fA.loc hT _)) λb _ hb=>HT g (λb hb=>hb) b hb
 ·cases j<;>first|rfl|exact absurd rfl p|skip
  rename_i k;show j2 (Y.eU++[cp])[k]? A.tb[k]? A.cI[k]?=j2 Y.eU[k]? A.tb[k]? A.cI[k]?;rcases zq k Y.eU.length with h1|h1
  ·rw[zQ h1]
  ·have:A.cI[k]?=none:=zO O;rw[this]
   funext U F
   unfold j2;cases(Y.eU++[cp])[k]?<;>cases Y.eU[k]?<;>cases A.tb[k]?<;>rfl
 ·show bR s' 1 (eB (Y.eU++[cp])) σ' (Grow G U);have:eB (Y.eU++[cp])=eB Y.eU++[.pointer (some ⟨cp,0,none⟩)]:=by simp[eB]
  rw[this];exact m
theorem NU (hlen:A.cF.length<=Y.fT.length)(tp:Nat)(s':Sl):cA A {Y with cK:=s',fT:=Y.fT++[tp]}=cA A Y:=by
 funext k
 unfold cA;simp only;rcases zq k Y.fT.length with h1|h1
 ·rw[zQ h1]
 ·have:A.cF[k]?=none:=zO O;rw[this]
  funext U F
  unfold lC;cases(Y.fT++[tp])[k]?<;>cases Y.fT[k]?<;>cases A.tb[k]?<;>rfl
theorem DK {cs:List Value}(h:Sep (fA A Y (cA A Y) cs) U F)(hlen:A.cF.length<=Y.fT.length)(hl:Y.fT.length<=40){vb tp ty:Nat}(hb:bY U vb [.pointer (some ⟨tp,0,none⟩)])(hvb:¬F vb){K:Sl->Hp->Prop}
 (hK:∀s' σ',Ext F U σ'->Sep (fA A {Y with cK:=s',fT:=Y.fT++[tp]} (cA A {Y with cK:=s',fT:=Y.fT++[tp]}) cs) σ' (Grow F U)->K s' σ'):App Y.cK 1 8 ty [.pointer none] ⟨some ⟨vb,0,none⟩,1,1⟩ U K:=by
 have g:∀k,dH (cA A Y k):=λk=>cA.loc k;obtain⟨G,i,d,_,a⟩:=h.jx (fA.loc g) .cK;have d:bR Y.cK 1 (eB Y.fT) U G:=d;have s:Y.cK.len=Y.fT.length:=by have:=d.1;simp[eB]at this;omega
 refine d.app (ys:=[.pointer (some ⟨tp,0,none⟩)]) rfl rfl ?_ (by simp[dJ]) aC aC mu λs' σ' m e r=>hK s' σ' (e.sub i) ?_
 ·intro j u hu;rw[add_lit,zG,hb.cell];exact hu
 rw[NU hlen];refine(Sep.loc (fA.loc g)).mono (a σ' (fA A {Y with cK:=s',fT:=Y.fT++[tp]} (cA A Y) cs) (Grow G U) (λj p=>?_) e (λb hb=>hb) ?_ (fA.loc g _)) λb _ hb=>HT i (λb hb=>hb) b hb
 ·cases j<;>first|rfl|exact absurd rfl p
 ·show bR s' 1 (eB (Y.fT++[tp])) σ' (Grow G U);have:eB (Y.fT++[tp])=eB Y.fT++[.pointer (some ⟨tp,0,none⟩)]:=by simp[eB]
  rw[this];exact r
theorem Ib {cs:List Value}(hT:∀k,dH (T k))(h:Sep (fA A Y T cs) U F){i:Nat}{v:Value}(hi:i<cs.length){K:aP}(hK:∀σ',Ext F U σ'->Sep (fA A Y T (cs.set i v)) σ' F->K σ'):eP (Addr.add ⟨Y.p,0,none⟩ i) v U K:=by
 obtain⟨G,e,hp,_,d⟩:=h.jx (fA.loc hT) .hd;have hp:gR Y.p cs U G:=hp;refine hp.2.s1 O λσ' o b=>hK σ' (o.ext.sub λb a=>by subst a;exact e _ hp.1) ?_;rw[zG]at b;refine(Sep.loc (fA.loc hT)).mono (d σ' (fA A Y T (cs.set i v)) G (λj g=>?_) (o.ext.sub λb a=>by subst a;exact hp.1) (λb a=>.inl a) ⟨hp.1,b⟩ (fA.loc hT _)) λb _ a=>vA e (λb a=>a) b a;cases j<;>first|rfl|exact absurd rfl g
theorem jh {cs:List Value}(h:Sep (fA A Y T cs) U F):bY U Y.p cs/\F Y.p:=by
 obtain⟨G,b,hp,a⟩:=h.get .hd;exact⟨a,b _ hp⟩
theorem Pu {cs:List Value}{i cp tp:Nat}{c:cD}{ss:List cM}{t:gg}{ps:List (Nat×Nat)}{Gc Gt:Rg}(h:Sep (fA A Y (cA A Y) cs) U F)(hlc:A.cI.length=i)(hlt:A.cF.length=i)(hcp:Y.eU[i]?=some cp)(htp:Y.fT[i]?=some tp)(hc:A.tb[i]?=some c)
 (hC:eX U Gc cp c ps ss) (hTf:ij U Gt tp c.batch A.room t) (d1:∀b,Gc b->¬F b) (d2:∀b,Gt b->¬F b) (d3:∀b,Gc b->¬Gt b) :
 Sep (fA {A with cI:=A.cI++[ss],cF:=A.cF++[t]} Y (cA {A with cI:=A.cI++[ss],cF:=A.cF++[t]} Y) cs) U λb=>(F b\/Gc b)\/Gt b:=by
 have d:∀k,dH (cA A Y k):=λk=>cA.loc k;have u:Sep (fA {A with cI:=A.cI++[ss]} Y (cA A Y) cs) U λb=>F b\/Gc b:=by
  refine h.put (fA.loc d) (.cI i) d1 (λj p=>?_) ?_ (fA.loc d _)
  ·cases j<;>first|rfl|skip
   rename_i k;have r:k≠i:=λe=>p (by rw[e]);show j2 Y.eU[k]? A.tb[k]? (A.cI++[ss])[k]?=j2 Y.eU[k]? A.tb[k]? A.cI[k]?;rcases zq k i with h2|h2
   ·rw[zQ O]
   ·have m:(A.cI++[ss])[k]?=none:=zO (by rw[zR,wS];omega);have g:A.cI[k]?=none:=zO O;rw[m,g]
  ·show j2 Y.eU[i]? A.tb[i]? (A.cI++[ss])[i]? U Gc;rw[hcp,hc,zg O,hlc,mI];exact⟨ps,hC⟩
 refine u.put (fA.loc d) (.cF i) (λb s a=>?_) (λj p=>?_) ?_ (fA.loc (λk=>cA.loc k) _)
 ·rcases a with a|a
  ·exact d2 b s a
  ·exact d3 b a s
 ·cases j<;>first|rfl|skip
  rename_i k;have r:k≠i:=λe=>p (by rw[e]);show lC Y.fT[k]? A.tb[k]? A.room (A.cF++[t])[k]?=lC Y.fT[k]? A.tb[k]? A.room A.cF[k]?;rcases zq k i with h2|h2
  ·rw[zQ O]
  ·have m:(A.cF++[t])[k]?=none:=zO (by rw[zR,wS];omega);have g:A.cF[k]?=none:=zO O;rw[m,g]
 ·show lC Y.fT[i]? A.tb[i]? A.room (A.cF++[t])[i]? U Gt;rw[htp,hc,zg O,hlt,mI];exact hTf
open Classical in
noncomputable def iH {L:Type}(C:L->Hp->Rg->Prop)(S:L->Prop)(i:L):Hp->Rg->Prop:=if S i then C i else xH
theorem iH.loc {L:Type}{C:L->Hp->Rg->Prop}{S:L->Prop}(hC:∀i,dH (C i))(i:L):dH (iH C S i):=by
 unfold iH;split
 ·exact hC i
 ·exact xH.loc
theorem iH.put {L:Type}{C:L->Hp->Rg->Prop}{S:L->Prop}{F G:Rg}(hC:∀i,dH (C i))(h:Sep (iH C S) U F)(i:L)(hd:∀b,G b->¬F b)(hi:C i U G):Sep (iH C λj=>S j\/j=i) U λb=>F b\/G b:=by
 refine h.put (iH.loc hC) i hd (λj a=>?_) ?_ (iH.loc hC i)
 ·unfold iH;by_cases hS:S j
  ·rw[zB (.inl hS),zB hS]
  ·rw[zA (λh=>hS (h.resolve_right a)),zA hS]
 ·unfold iH;rw[zB (.inr rfl)];exact hi
theorem iH.all {L:Type}{C:L->Hp->Rg->Prop}{S:L->Prop}{F:Rg}(h:Sep (iH C S) U F)(hS:∀i,S i):Sep C U F:=by
 have:iH C S=C:=by
  funext i;unfold iH;rw[zB (hS i)]
 rw[this]at h;exact h
theorem iH.one {L:Type}{C:L->Hp->Rg->Prop}(S:L->Prop)(l:L)(h:∀i,S i->C i U λ_=>False):Sep (iH C S) U λ_=>False:=by
 refine⟨λ_=>l,λi=>?_⟩;have:(λ(b:Nat)=>False/\l=i)=λ_=>False:=by funext b;simp
 rw[this];unfold iH;by_cases hS:S i
 ·rw[zB hS];exact h i hS
 ·rw[zA hS];trivial
theorem JN {tb:List cD}:∀v∈fB tb,dJ v=true:=by
 intro v hv;simp only[fB,r6]at hv;obtain⟨c,_,a⟩:=hv;simp at a;rcases a with rfl|rfl|rfl<;>rfl
theorem HV {s:Sl}{xs:List (Int×Int×Int)}(ha:iB U s xs)(hv:QM xs=true){i:Nat}{c:cD}(hc:(xs.map Qx)[i]?=some c):xs[i]?=some ((c.size:Int),(c.bK:Int),(c.batch:Int))/\c.ok:=by
 rw[zk,qA]at hc;obtain⟨⟨x,y,z⟩,d,rfl⟩:=hc;obtain⟨c,a,j,g,b,e⟩:=yr (((Qr xs).1 hv).2.2.1 i _ d);simp only at g b e;rw[j,d,g,b,e];exact⟨rfl,a⟩
theorem UC {s:Sl}{xs:List (Int×Int×Int)}(ha:iB U s xs)(hv:QM xs=true){R:Sl->Hp->Prop}(hR:∀s' σ',aG U σ'->cS s' 3 (fB (xs.map Qx)) σ' (λb=>U.size<=b)->R s' σ'):Wb.c s U R:=by
 refine Wb.o ?_;unfold Wb.v;have G:=(Qr xs).1 hv;have y:=ha.1;have p:0<(xs.map Qx).length:=by rw[zi];omega
 have B:(xs.map Qx)[0]?=some (xs.map Qx)[0]:=cQ p;obtain⟨L,d,a,_⟩:=ha.2 0 _ _ _ (HV ha hv B).1;refine bZ (by rw[a];rfl) (nw (cs:=[]) λv E e1 F=>?_);have r:=Qg ha e1;refine(bR.nil v (λb=>U.size<=b) 3 (some ⟨U.size,0,none⟩)).app (ys:=fB (xs.map Qx)) rfl (by rw[V7,zi];omega) ?_ JN aC aC O λs' K A H g=>hR s' K (Ext.fresh e1 H λi m=>m) ?_
 ·rw[a];intro j u hu;have x:=(cV.1 hu).1;rw[V7,zi]at x;have m:j/3<(xs.map Qx).length:=by rw[zi];omega
  have w:(xs.map Qx)[j/3]?=some (xs.map Qx)[j/3]:=cQ m;generalize (xs.map Qx)[j/3]=c at w;have e:=yb w;obtain⟨b,o,z,_,C,J,D⟩:=r.2 (j/3) _ _ _ (HV ha hv w).1;rw[a]at z;cases z;rw[add_lit];rcases(by omega:j=3*(j/3)\/j=3*(j/3)+1\/j=3*(j/3)+2)with hj|hj|hj
  ·rw[hj]at hu;rw[e.1]at hu;cases hu;rw[show d+j=d+j/3*3 by omega];exact C
  ·rw[hj]at hu;rw[e.2.1]at hu;cases hu;rw[show d+j=d+j/3*3+1 by omega];exact J
  ·rw[hj]at hu;rw[e.2.2]at hu;cases hu;rw[show d+j=d+j/3*3+2 by omega];exact D
 ·rw[qv]at g;refine aH.mono g.fM λb _ e=>?_;rcases e with h|h
  ·exact h
  ·omega
def fI (n room:Nat)(tb:List cD):AR:={n:=n,room:=room,tb:=tb,S:=Go.Bu.iI,st:=List.replicate n 0,ow:=λ_=>0,cI:=List.replicate tb.length [],cF:=List.replicate tb.length ⟨0,[]⟩,runs:=[]}
def jR (n room:Nat)(tb:List cD)(i:Nat):AR:={fI n room tb with cI:=List.replicate i [],cF:=List.replicate i ⟨0,[]⟩}
def lK (xs:List (Int×Int×Int))(n:Nat)(room:Int):Int:=if QM xs then(if 32<=n/\n%16=0/\0<=room/\room<=8 then 0 else 1)else 2
def S0:Lb->Prop
 | .dF | .cK | .cI _ | .cF _=>True
 | _=>False
theorem CW {i cp tp:Nat}{c:cD}{ss:List cM}{t:gg}{ps:List (Nat×Nat)}{Gc Gt:Rg}{dF cK:Sl}(hpos:Y.eU.length=i/\Y.fT.length=i)
 (h:Sep (fA A {Y with dF:=dF,cK:=cK,eU:=Y.eU++[cp],fT:=Y.fT++[tp]} (cA A {Y with dF:=dF,cK:=cK,eU:=Y.eU++[cp],fT:=Y.fT++[tp]}) (iZ Y)) U F)
 (hlc:A.cI.length=i) (hlt:A.cF.length=i) (hc:A.tb[i]?=some c) (hC:eX U Gc cp c ps ss) (hTf:ij U Gt tp c.batch A.room t) (d1:∀b,Gc b->¬F b) (d2:∀b,Gt b->¬F b) (d3:∀b,Gc b->¬Gt b) {K:aP}
 (hK:∀σ' Y',Ext F U σ'->Y'.p=Y.p->Y'.hs=Y.hs->Y'.eU.length=i+1->Y'.fT.length=i+1->Sep (fA {A with cI:=A.cI++[ss],cF:=A.cF++[t]} Y' (cA {A with cI:=A.cI++[ss],cF:=A.cF++[t]} Y') (iZ Y')) σ' (λb=>(F b\/Gc b)\/Gt b)->K σ') :
 bU (some ⟨Y.p,0,none⟩) λa93=>eP (a93.add 5) (.slice dF.a dF.len dF.cap) U λv25=>bU (some ⟨Y.p,0,none⟩) λa95=>eP (a95.add 6) (.slice cK.a cK.len cK.cap) v25 K:=by
 have m:∀k,dH (cA A {Y with dF:=dF,cK:=cK,eU:=Y.eU++[cp],fT:=Y.fT++[tp]} k):=λk=>cA.loc k;refine bO (Ib (Y:={Y with dF:=dF,cK:=cK,eU:=Y.eU++[cp],fT:=Y.fT++[tp]}) m h (i:=5) (by simp[iZ]) λx e1 r=>bO (Ib (Y:={Y with dF:=dF,cK:=cK,eU:=Y.eU++[cp],fT:=Y.fT++[tp]}) m r (i:=6) (by simp[iZ]) λu e2 w=>?_));have g:=(eX.loc (c:=c) (ps:=ps) (ss:=ss) (p:=cp)).bV ((eX.loc (c:=c) (ps:=ps) (ss:=ss) (p:=cp)).bV hC e1 λb _ e d=>d1 b e d) e2 λb _ e d=>d1 b e d;have j:=(ij.loc (p:=tp) (batch:=c.batch) (room:=A.room) (t:=t)).bV ((ij.loc (p:=tp) (batch:=c.batch) (room:=A.room) (t:=t)).bV hTf e1 λb _ e d=>d2 b e d) e2 λb _ e d=>d2 b e d;have s:=Pu (cp:=cp) (tp:=tp) w hlc hlt (by simp only;rw[zg O,hpos.1,mI];rfl) (by simp only;rw[zg O,hpos.2,mI];rfl) hc g j d1 d2 d3;exact hK u {Y with dF:=dF,cK:=cK,eU:=Y.eU++[cp],fT:=Y.fT++[tp]} (e1.trans e2) rfl rfl (by simp[hpos.1]) (by simp[hpos.2]) s
theorem nS {cs:List Value}{σ':Hp}(hT:∀k,dH (T k))(h:Sep (fA A Y T cs) U F)(e:aG U σ'):Sep (fA A Y T cs) σ' F:=(Sep.loc (fA.loc hT)).aF h e
theorem wj {cs:List Value}(hT:∀k,dH (T k))(h:Sep (fA A Y T cs) U F):Sep (fA A Y T cs) U (Cut F U):=(Sep.loc (fA.loc hT)).cut h
theorem OI (n room:Nat)(tb:List cD)(i:Nat):({jR n room tb i with cI:=(jR n room tb i).cI++[[]],cF:=(jR n room tb i).cF++[⟨0,[]⟩]}:AR)=jR n room tb (i+1):=by
 unfold jR;simp only[←Ds]
theorem Wkh (n room:Nat)(tb:List cD):jR n room tb tb.length=fI n room tb:=rfl
theorem PW {i cp tp:Nat}{c:cD}{ss:List cM}{t:gg}{ps:List (Nat×Nat)}{Gc Gt:Rg}{z:Nat}(hF:∀b,F b->z<=b/\b<U.size)(hpos:Y.eU.length=i/\Y.fT.length=i)(hi:i<40)
 (h:Sep (fA A Y (cA A Y) (iZ Y)) U F) (hlc:A.cI.length=i) (hlt:A.cF.length=i) (hc:A.tb[i]?=some c) (hC:eX U Gc cp c ps ss) (hTf:ij U Gt tp c.batch A.room t) (d1:∀b,Gc b->¬F b/\z<=b/\b<U.size) (d2:∀b,Gt b->¬F b/\z<=b/\b<U.size) (d3:∀b,Gc b->¬Gt b) {J4:aP}
 (hK:∀σ' Y',Ext F U σ'->Y'.p=Y.p->Y'.hs=Y.hs->Y'.eU.length=i+1->Y'.fT.length=i+1->Sep (fA {A with cI:=A.cI++[ss],cF:=A.cF++[t]} Y' (cA {A with cI:=A.cI++[ss],cF:=A.cF++[t]} Y') (iZ Y')) σ' (λb=>z<=b)->J4 σ') :
 dP U λS=>bU (some ⟨Y.p,0,none⟩) λa80=>fR S .s (a80.add 5) λ(t82:Sl)=>bU (some ⟨Y.p,0,none⟩) λa87=>fR S .s (a87.add 6) λ(t89:Sl)=>
  (Nw (.cells #[.pointer (some ⟨cp,0,none⟩)] 139 (0,0)) U λn84 v21=>And (S v21) <|
   (App t82 1 8 139 [.pointer none] ⟨some n84,1,1⟩ v21 λt85 v22=>And (S v22)<|Nw (.cells #[.pointer (some ⟨tp,0,none⟩)] 141 (0,0)) v22 λn91 v23=>And (S v23)<|App t89 1 8 141 [.pointer none] ⟨some n91,1,1⟩ v23 λt92 v24=>And (S v24) <|
   bU (some ⟨Y.p,0,none⟩) λa93=>eP (a93.add 5) (.slice t85.a t85.len t85.cap) v24 λv25=>bU (some ⟨Y.p,0,none⟩) λa95=>eP (a95.add 6) (.slice t92.a t92.len t92.cap) v25 λv26=>J4 v26) ∧
   (Nw (.cells #[.pointer (some ⟨tp,0,none⟩)] 141 (0,0)) v21 λn911 v27=>And (S v27)<|App t82 1 8 139 [.pointer none] ⟨some n84,1,1⟩ v27 λt851 v28=>And (S v28)<|App t89 1 8 141 [.pointer none] ⟨some n911,1,1⟩ v28 λt921 v29=>And (S v29) <|
   bU (some ⟨Y.p,0,none⟩) λa931=>eP (a931.add 5) (.slice t851.a t851.len t851.cap) v29 λv30=>bU (some ⟨Y.p,0,none⟩) λa951=>eP (a951.add 6) (.slice t921.a t921.len t921.cap) v30 λv31=>J4 v31)) ∧
  (Nw (.cells #[.pointer (some ⟨tp,0,none⟩)] 141 (0,0)) U λn912 v32=>And (S v32)<|Nw (.cells #[.pointer (some ⟨cp,0,none⟩)] 139 (0,0)) v32 λn841 v33=>And (S v33) <|
  App t82 1 8 139 [.pointer none] ⟨some n841,1,1⟩ v33 λt852 v34=>And (S v34)<|App t89 1 8 141 [.pointer none] ⟨some n912,1,1⟩ v34 λt922 v35=>And (S v35) <|
  bU (some ⟨Y.p,0,none⟩) λa932=>eP (a932.add 5) (.slice t852.a t852.len t852.cap) v35 λv36=>bU (some ⟨Y.p,0,none⟩) λa952=>eP (a952.add 6) (.slice t922.a t922.len t922.cap) v36 λv37=>J4 v37):=by
 have G:∀k,dH (cA A Y k):=λk=>cA.loc k;have aa:=eX.loc (c:=c) (ps:=ps) (ss:=ss) (p:=cp);have ad:=ij.loc (p:=tp) (batch:=c.batch) (room:=A.room) (t:=t);refine⟨λm=>bY m Y.p (iZ Y),(jh h).1,bO ⟨Y.dF,λm hm=>by rw[add_lit,hm.cell];rfl,bO ⟨Y.cK,λm hm=>by rw[add_lit,hm.cell];rfl,?_⟩⟩⟩;have D:∀(w:Hp) (F1:Rg) (b1 b2:Nat),aG U w->(∀b,F1 b->F b)->Sep (fA A Y (cA A Y) (iZ Y)) w F1->bY w b1 [.pointer (some ⟨cp,0,none⟩)]->bY w b2 [.pointer (some ⟨tp,0,none⟩)]->U.size<=b1->U.size<=b2 →
  App Y.dF 1 8 139 [.pointer none] ⟨some ⟨b1,0,none⟩,1,1⟩ w λt85 v28=>And (bY v28 Y.p (iZ Y))<|App Y.cK 1 8 141 [.pointer none] ⟨some ⟨b2,0,none⟩,1,1⟩ v28 λt92 v29=>And (bY v29 Y.p (iZ Y)) <|
   bU (some ⟨Y.p,0,none⟩) λa93=>eP (a93.add 5) (.slice t85.a t85.len t85.cap) v29 λv30=>bU (some ⟨Y.p,0,none⟩) λa95=>eP (a95.add 6) (.slice t92.a t92.len t92.cap) v30 λv31=>J4 v31:=by
  intro w F1 b1 b2 ew hF1 hw hb1 hb2 hz1 hz2;have C:∀b,F1 b->z<=b/\b<U.size:=λb d=>hF b (hF1 b d);have hsw:=ew.1;refine Dx G hw O O hb1 (λg=>by have:=C _ g;omega) λs1 v28 H N=>?_;have L:=(jh N).1;have R:Sep (fA A {Y with dF:=s1,eU:=Y.eU++[cp]} (cA A {Y with dF:=s1,eU:=Y.eU++[cp]}) (iZ Y)) v28 (Grow F1 w):=N;refine⟨L,?_⟩;have ai:Sep (fA A {Y with dF:=s1,eU:=Y.eU++[cp]} (cA A {Y with dF:=s1,eU:=Y.eU++[cp]}) (iZ Y)) v28 (λb=>F1 b\/w.size<=b):=R;have ae:=H.bX hb2 λg=>by have:=C _ g;omega
  have hb2lt:=hb2.lt;refine DK ai aC aC ae (λg=>by
   rcases g with g|g
   ·have:=C _ g;omega
   ·omega) λs2 v29 e29 K=>?_
  refine⟨(jh K).1,?_⟩;have E:∀b,(F1 b\/w.size<=b)->F b\/U.size<=b:=λb d=>by
   rcases d with d|d
   ·exact .inl (hF1 b d)
   ·exact .inr O
  have j:Ext F U v29:=((aG.to ew).trans (H.sub hF1)).eY e29 E;have P:=aa.bV hC j λb _ d g=>(d1 b d).1 g;have M:=ad.bV hTf j λb _ d g=>(d2 b d).1 g;have hs28:=H.1;refine CW (F:=Grow (λb=>F1 b\/w.size<=b) v28) hpos K hlc hlt hc P M (λb d g=>?_) (λb d g=>?_) d3 λw2 Y' e2 p1 p2 p3 p4 h2=>?_
  ·have:=d1 b d;rcases g with(g|g)|g
   ·exact this.1 (hF1 b g)
   ·omega
   ·omega
  ·have:=d2 b d;rcases g with(g|g)|g
   ·exact this.1 (hF1 b g)
   ·omega
   ·omega
  ·refine hK w2 Y' (j.eY e2 λb d=>?_) p1 p2 p3 p4 ((Sep.loc (fA.loc (λk=>cA.loc k))).mono h2 λb _ d=>?_)
   ·rcases d with(d|d)|d
    ·exact .inl (hF1 b d)
    ·exact .inr O
    ·exact .inr O
   ·have hz0:z<=U.size:=by have:=(d1 _ hC.fp);omega
    rcases d with(((d|d)|d)|d)|d
    ·exact(C b d).1
    ·omega
    ·omega
    ·exact(d1 b d).2.1
    ·exact(d2 b d).2.1
 have S0:∀{w:Hp},aG U w->bY w Y.p (iZ Y):=λe=>e.bX (jh h).1 id;refine⟨nw (cs:=[.pointer (some ⟨cp,0,none⟩)]) λv21 z21 u Z=>⟨S0 u,?_,?_⟩,nw (cs:=[.pointer (some ⟨tp,0,none⟩)]) λv32 z32 y b32=>⟨S0 y,nw (cs:=[.pointer (some ⟨cp,0,none⟩)]) λv33 z33 x b33=>⟨S0 (Ext.trans y x),?_⟩⟩⟩
 ·-- row,box,row
  have ag:=nS G h u;refine Dx G ag O O Z (λg=>by have:=hF _ g;omega) λs1 v22 ac W=>⟨(jh W).1,?_⟩;have X:Sep (fA A {Y with dF:=s1,eU:=Y.eU++[cp]} (cA A {Y with dF:=s1,eU:=Y.eU++[cp]}) (iZ Y)) v22 (Grow F v21):=W;have c22:=wj (λk=>cA.loc k) X;refine nw (cs:=[.pointer (some ⟨tp,0,none⟩)]) λv23 z23 J b23=>?_;have Q:=nS (λk=>cA.loc k) c22 J;refine⟨(jh Q).1,DK Q aC aC b23 (λg=>by have:=g.2;omega) λs2 v24 ah ab=>⟨(jh ab).1,?_⟩⟩;have hs22:=ac.1;have hs23:=J.1;have r:∀b,Cut (Grow F v21) v22 b->F b\/U.size<=b:=λb d=>by
   rcases d.1 with h|h
   ·exact .inl h
   ·exact .inr O
  have j:Ext F U v24:=((((aG.to u).trans ac).lH J)).eY ah r;have V:=aa.bV hC j λb _ d g=>(d1 b d).1 g;have af:=ad.bV hTf j λb _ d g=>(d2 b d).1 g;refine CW (F:=Grow (Cut (Grow F v21) v22) v23) hpos ab hlc hlt hc V af (λb d g=>?_) (λb d g=>?_) d3 λw2 Y' e2 p1 p2 p3 p4 h2=>?_
  ·have:=d1 b d;rcases g with g|g
   ·rcases g.1 with g|g
    ·exact this.1 g
    ·omega
   ·omega
  ·have:=d2 b d;rcases g with g|g
   ·rcases g.1 with g|g
    ·exact this.1 g
    ·omega
   ·omega
  ·refine hK w2 Y' (j.eY e2 λb d=>?_) p1 p2 p3 p4 ((Sep.loc (fA.loc (λk=>cA.loc k))).mono h2 λb _ d=>?_)
   ·rcases d with d|d
    ·exact r b d
    ·exact .inr O
   ·have hz0:z<=U.size:=by have:=(d1 _ hC.fp);omega
    rcases d with((d|d)|d)|d
    ·rcases r b d with h|h
     ·exact(hF b h).1
     ·omega
    ·omega
    ·exact(d1 b d).2.1
    ·exact(d2 b d).2.1
 ·-- box,row,row
  refine nw (cs:=[.pointer (some ⟨tp,0,none⟩)]) λv27 z27 B b27=>⟨S0 (Ext.trans u B),?_⟩;exact D v27 F U.size v21.size (Ext.trans u B) (λb d=>d) (nS G (nS G h u) B) (B.bX Z id) b27 (zC _) O
 ·exact D v33 F v32.size U.size (Ext.trans y x) (λb d=>d) (nS G (nS G h y) x) b33 (x.bX b32 id) O (zC _)
theorem QN {P:Hp->Rg->Prop}(hl:dH P){a:Nat}(h:P U λb=>a<=b):P U λb=>a<=b/\b<U.size:=hl.mono h λb d e=>⟨e,d⟩
theorem υ {n room:Nat}{tb:List cD}(h1:32<=n)(h2:n<=1024)(h3:n%16=0)(h4:room<=8)(h5:1<=tb.length)(h6:tb.length<=40)(h7:∀c∈tb,c.ok)(hc:Y.eU.length=tb.length)(ht:Y.fT.length=tb.length):eZ (fI n room tb) Y:=
 ⟨hc,ht,by simp[fI],by simp[fI],h5,h6,h1,h2,h3,by simp[fI],h4,h7⟩
theorem Oh {s:Sl}{xs:List (Int×Int×Int)}(ha:iB U s xs)(hS:cZ U H hs sp)(room:Int){R:Option Addr->Int->Hp->Prop}
 (h0:lK xs sp.st.length room≠0->∀σ',aG U σ'->R none (lK xs sp.st.length room) σ')
 (h1:lK xs sp.st.length room=0->∀σ' Y,aG U σ'->Y.hs=hs->dA σ' (λb=>U.size<=b) Y (fI sp.st.length room.toNat (xs.map Qx)) (cA (fI sp.st.length room.toNat (xs.map Qx)) Y)->R (some ⟨Y.p,0,none⟩) 0 σ') :
 Kv.c s (some ⟨hs,0,none⟩) room U R:=by
 refine Kv.o ?_;unfold Kv.v;have hn2:sp.st.length<=1024:=by obtain⟨q,r,l,B,h⟩:=hS;exact h.n2
 refine Aq ha λv e=>?_;cases hv:QM xs
 ·have e1:lK xs sp.st.length room=2:=by unfold lK;rw[hv];rfl
  have:=h0 (by rw[e1];decide) v e;rw[e1]at this;exact cJ rfl this
 have Z:lK xs sp.st.length room=if 32<=sp.st.length/\sp.st.length%16=0/\0<=room/\room<=8 then 0 else 1:=by unfold lK;rw[hv,zB rfl]
 refine bZ rfl (He (hS.aF e) ?_);have D:¬(32<=sp.st.length/\sp.st.length%16=0/\0<=room/\room<=8)->R none 1 v:=λhn=>by
  rw[zA hn]at Z;have:=h0 (by rw[Z];decide) v e;rw[Z]at this;exact this
 have tm:(((sp.st.length:Nat):Int).tmod 16)=((sp.st.length%16:Nat):Int):=by rw[QY O];simp
 refine bW.intro (cL (λc1=>bW.intro (cJ rfl (bW.intro (cJ rfl (cJ rfl (D O)))))) λc1=>nz aB ?_);rw[tm,A6];refine bW.intro (cU (λc2=>bW.intro (cJ rfl (cJ rfl (D (λh=>by have:=h.2.1;simp[this]at c2))))) λc2=>?_);have ae:sp.st.length%16=0:=by simpa using c2
 refine bW.intro (cL (λc3=>cJ rfl (D O)) λc3=>cL (λc4=>D O) λc4=>?_);obtain⟨W,rfl⟩:=zf (show 0<=room by omega);rw[zB O]at Z;have h1:=h1 Z;simp only[dE]at h1;have hva:=(Qr xs).1 hv;have N:=Qg ha e;have hn1:32<=sp.st.length:=by omega
 generalize sp.st.length=n at *;have hlen:s.len=(xs.map Qx).length:=by rw[zi];exact ha.1
 have hcl:∀{σ':Hp} {i:Nat} {c:cD},iB σ' s xs->(xs.map Qx)[i]?=some c->xs[i]?=some ((c.size:Int),(c.bK:Int),(c.batch:Int))/\c.ok:=λh P=>HV h hv P;have J:1<=(xs.map Qx).length/\(xs.map Qx).length<=40:=by rw[zi];omega
 refine UC N hv λcH v5 e5 htab=>Ea λX op e6 hop hP=>Gj λA z7 e7 hm=>?_;generalize htbd:xs.map Qx=tb at *;refine nw (cs:=[.slice cH.a cH.len cH.cap,.pointer (some ⟨hs,0,none⟩),.pointer none,.pointer none,.pointer (some ⟨op,0,none⟩),.slice none 0 0,.slice none 0 0,.map (some X.size)]) λv8 z8 e8 b8=>?_;refine Go.Bu.sQ _ (λg=>absurd ⟨O,O⟩ g) λn' hn' _ _ v9 sb ms e9 hB hfp=>?_;have hnn:n=n':=by omega
 subst hnn;have b9:=e9.bX b8 id;refine bO (b9.s1 aA λv10 gE b10=>PV O O ae λK tp tq M htp htq hTk=>bO ((M.bX b10 id).s1 aA λv12 S b12=>?_));have s5:=e5.1;have s6:=e6.1;have s9:=e9.1;have s10:=gE.1;have s11:=M.1;have s12:=S.1;have hb8:=b8.lt;have x9:Ext (· = A.size) v9 v12:=(gE.ext.trans (aG.to M)).trans S.ext;have x5:Ext (· = A.size) v5 v12:=(aG.to (Ext.trans (Ext.trans (Ext.trans e6 e7) e8) e9)).trans x9;have x6:Ext (· = A.size) X v12:=(aG.to (Ext.trans (Ext.trans e7 e8) e9)).trans x9;have x7:Ext (· = A.size) A v12:=(aG.to (Ext.trans e8 e9)).trans x9;have x11:Ext (· = A.size) K v12:=S.ext;have p1:=aH.bV (QN aH htab) x5 λb _ g d=>by omega
 have p2:=(gJ.loc (p:=op) (ow:=λ_=>0)).bV (QN gJ.loc hP) x6 λb _ g d=>by omega
 have p3:dD v12 X.size .i64 bN []:=x7.fC (hm _ _) O;have p5:pj v8.size n Go.Bu.iI v12 (λb=>v8.size<=b/\b<v9.size):=(pj.loc _ _ _).bV (QN (pj.loc _ _ _) ⟨sb,ms,hB,hfp⟩) x9 λb _ g d=>by omega
 have p6:ko tp (List.replicate n 0) v12 (λb=>v10.size<=b/\b<K.size):=(ko.loc _ _).bV (QN (ko.loc _ _) ⟨tq,hTk,htp,htq⟩) x11 λb _ g d=>by omega
 let Y0:Lay:={p:=A.size,hs:=hs,fr:=v8.size,tr:=tp,op:=op,rn:=X.size,cH:=cH,dF:=⟨none,0,0⟩,cK:=⟨none,0,0⟩,eU:=[],fT:=[]}
 have af:bY v12 A.size (iZ Y0):=b12
 let Cf:=fA (jR n W tb 0) Y0 (cA (jR n W tb 0) Y0) (iZ Y0)
 have u:∀i,dH (Cf i):=fA.loc λk=>cA.loc k;have q0:Sep (iH Cf S0) v12 λ_=>False:=iH.one S0 .hd λi V=>by
  cases i<;>first|exact V.elim|exact bR.nil _ _ _ _|exact trivial
 have q1:=iH.put u q0 .cH (G:=λb=>v.size<=b/\b<v5.size) (λb g d=>d) p1;have q2:=iH.put u q1 .own (G:=λb=>v5.size<=b/\b<X.size) (λb g d=>by
  rcases d with d|d
  ·exact d
  ·omega) p2
 have q3:=iH.put u q2 .runs (G:=λb=>b=X.size) (λb g d=>by
  rcases d with(d|d)|d
  ·exact d
  ·omega
  ·omega) ⟨rfl,p3⟩
 have q4:=iH.put u q3 .hd (G:=λb=>b=A.size) (λb g d=>by
  rcases d with((d|d)|d)|d
  ·exact d
  ·omega
  ·omega
  ·omega) ⟨rfl,af⟩
 have q5:=iH.put u q4 .free (G:=λb=>v8.size<=b/\b<v9.size) (λb g d=>by
  rcases d with(((d|d)|d)|d)|d
  ·exact d
  ·omega
  ·omega
  ·omega
  ·omega) p5
 have q6:=iH.put u q5 .l4 (G:=λb=>v10.size<=b/\b<K.size) (λb g d=>by
  rcases d with((((d|d)|d)|d)|d)|d
  ·exact d
  ·omega
  ·omega
  ·omega
  ·omega
  ·omega) p6
 have q7:Sep Cf v12 λb=>v.size<=b:=by
  refine(Sep.loc u).mono (iH.all q6 λi=>?_) λb _ d=>?_
  ·cases i<;>simp[S0]
  ·rcases d with(((((d|d)|d)|d)|d)|d)|d
   ·exact d.elim
   ·omega
   ·omega
   ·omega
   ·omega
   ·omega
   ·omega
 have e12:aG v v12:=Ext.fresh e5 x5 λi V=>by omega
 have szv:=e.1;refine Zw (a:=bN) (λ(t:Int) w=>∃(i:Nat) (Y:Lay),t=(i:Int)/\i<=tb.length/\Y.p=A.size/\Y.hs=hs/\Y.eU.length=i/\Y.fT.length=i/\aG v w/\Sep (fA (jR n W tb i) Y (cA (jR n W tb i) Y) (iZ Y)) w (λb=>v.size<=b)) (λt _=>tb.length-t.toNat)
  ⟨0,Y0,rfl,O,rfl,rfl,rfl,rfl,e12,q7⟩ ?_
 rintro t w ⟨i,Y,rfl,V,ag,hYh,hYc,ad,ew,y⟩;refine cL (λhlt=>?_) λhge=>?_
 ·have hi':i<tb.length:=by omega
  have P:tb[i]?=some tb[i]:=cQ hi';generalize tb[i]=c at P;have ah:=Qg N ew;obtain⟨hxi,aa⟩:=hcl ah P;refine Ak ah hxi ?_;refine nw (cs:=[.int .i64 0,.int .i64 0,.int .i64 0]) λv14 hz14 e14 b14=>b14.s1 aA λv15 o15 b15=>b15.s1 aA λv16 o16 b16=>b16.s1 aA λv17 o17 b17=>?_;have Q:aG w v17:=Ext.fresh (Ext.fresh (Ext.fresh e14 o15.ext λi V=>O) o16.ext λi V=>O) o17.ext λi V=>by omega
  have x:bY v17 w.size [.int .i64 (c.size:Int),.int .i64 (c.bK:Int),.int .i64 (c.batch:Int)]:=b17;refine x.rI rfl (x.rI rfl (x.rI rfl (Oe aa λv18 cp C hcp1 hcp2 hCe=>?_)));have b18:=C.bX x id;obtain⟨_,_,_,_,_,_,ab,ac⟩:=id aa;refine b18.rI rfl (TE ab ac O λv19 tp2 E htp1 htp2 hTf=>Jn.intro ?_);have s14:=Q.1;have s18:=C.1;have s19:=E.1;have sw:=ew.1;have hT:∀k,dH (cA (jR n W tb i) Y k):=λk=>cA.loc k;have h19:=nS hT (nS hT (nS hT (wj hT y) Q) C) E;have L:=hCe.aF E;rw[←ag];refine PW (F:=Cut (λb=>v.size<=b) w) (z:=v.size) (ss:=[]) (t:=⟨0,[]⟩) (λb g=>⟨g.1,by have:=g.2;omega⟩) ⟨hYc,ad⟩ O h19 (by simp[jR]) (by simp[jR]) P L hTf (λb g=>?_) (λb g=>?_) (λb g hb2=>O) λw2 Y' e2 y1 y2 y3 y4 h2=>?_
  ·subst g;exact⟨λd=>by have:=d.2;omega,O,O⟩
  ·subst g;exact⟨λd=>by have:=d.2;omega,O,O⟩
  ·rw[OI]at h2;exact cC (m:=i+1) O O ⟨⟨i+1,Y',rfl,O,y1,y2.trans hYh,y3,y4,Ext.fresh (Ext.trans (Ext.trans (Ext.trans ew Q) C) E) e2 λb g=>g.1,h2⟩,O⟩
 ·have:i=tb.length:=by omega
  subst this;rw[Wkh,E9]at y;have hl:eZ (fI n W tb) Y:=υ hn1 hn2 ae O J.1 J.2 (λc P=>by
   obtain⟨j,hj⟩:=zN P;exact(hcl N hj).2) hYc ad
  have:=h1 w Y (Ext.trans e ew) hYh ⟨hl,λk=>cA.loc k,(Sep.loc (AC.loc λk=>cA.loc k)).mono y λb _ g=>zP szv g⟩;rw[ag]at this;exact this
end Go.Ar
namespace Go.Vc
open Go
variable {U:Hp}{F:Rg}{s:Sl}{sz:Nat}{xs:List Value}
def dL (s:Sl)(sz:Nat)(xs:List Value):Hp->Rg->Prop:=λh F=>xs.length=s.len*sz/\(s.len=0/\s.cap=0\/∃b o cs,F b/\s.a=some ⟨b,o,none⟩/\bY h b cs/\s.len<=s.cap/\cs.length=o+s.cap*sz/\(cs.drop o).take xs.length=xs)
theorem dL.loc (s:Sl)(sz:Nat)(xs:List Value):dH (dL s sz xs):=λU g F G h d a=>by
 refine⟨h.1,h.2.imp id ?_⟩;rintro⟨b,o,cs,hq,ha,⟨e,he⟩,r⟩;have:=a b (bY.lt ⟨e,he⟩) hq;exact⟨b,o,cs,this.1,ha,⟨e,this.2.trans he⟩,r⟩
theorem dL.nil (h:Hp)(F:Rg)(sz:Nat)(a:Option Addr):dL ⟨a,0,0⟩ sz [] h F:=⟨by simp,.inl ⟨rfl,rfl⟩⟩
theorem bR.o (h:bR s sz xs U F):dL s sz xs U F:=⟨h.1,h.2.imp id λ⟨b,d,e,i,j,a,m,g⟩=>⟨b,0,d,e,i,j,a,O,by simpa using g⟩⟩
theorem dL.fM (h:dL s sz xs U F):cS s sz xs U F:=by
 refine⟨h.1,?_⟩;rcases h.2 with⟨hl,_⟩|⟨b,o,cs,hq,ha,hb,_,_,ht⟩
 ·left;have:=h.1;rw[hl]at this;simpa using this
 ·refine .inr ⟨b,o,cs,hq,ha,hb.q,λj a=>?_⟩;rw[←ht,zY,zn,zB a]
theorem dL.cap (h:dL s sz xs U F):s.len<=s.cap:=by
 rcases h.2 with⟨q1,q2⟩|⟨_,_,_,_,_,_,q,_⟩
 ·omega
 ·exact q
theorem dL.app {x:Sl}{bytes e:Nat}{zs ys:List Value}{K:Sl->Hp->Prop}(ho:dL s sz xs U F)(hz:zs.length=sz)
 (hy:ys.length=x.len*sz) (hr:Rd U x.a ys) (h1:∀v∈ys,dJ v=true) (hb:(s.len+x.len)*bytes<=2^46) (hc:s.len+x.len<=2^62)
 (hx:0<x.len) (hK:∀s' h',s'.len=s.len+x.len->Ext F U h'->dL s' sz (xs++ys) h' (Grow F U)->K s' h'):App s sz bytes e zs x U K:=by
 refine⟨xs,ys,ho.1,hy,ho.fM.rd,hr,h1,hb,hc,λg=>?_,λr c m=>?_⟩
 ·rcases ho.2 with⟨hl,hcap⟩|⟨b,o,cs,hQ,ha,hk,hle,hcl,ht⟩
  ·omega
  ·rw[ha];simp only;rw[add_lit];have u:(s.len+x.len)*sz<=s.cap*sz:=k7 _ g;rw[zl]at u;have d:=ho.1;refine Uc hk O λh' i j=>hK _ h' rfl (Ext.eL i hQ) ⟨?_,.inr ⟨b,o,_,.inl hQ,rfl,j,g,?_,?_⟩⟩
   ·simp[d,hy,zl]
   ·simp;omega
   ·rw[zR,d,zw];have e1:(cs.take (o+s.len*sz)++ys++cs.drop (o+s.len*sz+ys.length)).drop o=(cs.drop o).take (s.len*sz)++(ys++cs.drop (o+s.len*sz+ys.length)):=by
     rw[zm,List.drop_append_of_le_length (by rw[zL];omega),List.drop_take]
     congr 2;omega
    have p:(cs.drop o).take (s.len*sz)=xs:=by rw[←d];exact ht
    rw[e1,p,←zm,qb aE,l0 aE]
 ·refine hK _ _ rfl (Ext.push _ _ _) ⟨by simp[ho.1,hy,zl],.inr ⟨U.size,0,xs++ys++(List.replicate (c-(s.len+x.len)) zs).flatten,.inr (zC _),rfl,⟨e,by simp⟩,m,?_,?_⟩⟩
  ·simp only[zR,wg,uU,wG,ho.1,hy,hz,←zl];rw[zG];congr 1;omega
  ·rw[xW,qb aA,l0 aA]
theorem dL.AI {x:Sl}{bytes e:Nat}{zs:List Value}{K:Sl->Hp->Prop}(ho:dL s sz xs U F)(hx:x.len=0)(hb:s.len*bytes<=2^46)(hc:s.len<=2^62)(hK:dL ⟨s.a,s.len,s.cap⟩ sz xs U F->K ⟨s.a,s.len,s.cap⟩ U):App s sz bytes e zs x U K:=by
 have d:=ho.cap;refine⟨xs,[],ho.1,by simp[hx],ho.fM.rd,by cases x.a<;>simp[Rd],by simp,by rw[hx];exact hb,O,λg=>?_,λb=>absurd O b⟩
 rw[hx];have:=hK ho;cases ha:s.a<;>(rw[ha]at this;exact this)
theorem dL.from (h:dL s sz xs U F){lo:Nat}(h1:lo<=s.len):dL ⟨if s.cap=lo then s.a else s.a.map (·.add (lo*sz)),s.len-lo,s.cap-lo⟩ sz (xs.drop (lo*sz)) U F:=by
 have d:=h.1;refine⟨by rw[zt,d,Nat.sub_mul],?_⟩;rcases h.2 with⟨q1,q2⟩|⟨b,o,cs,hq,ha,hb,hle,hcl,ht⟩
 ·left;simp only;omega
 ·by_cases hm:s.cap=lo
  ·left;simp only;omega
  ·refine .inr ⟨b,o+lo*sz,cs,hq,by simp only[zA hm,ha,zh,add_lit],hb,by simp only;omega,?_,?_⟩
   ·have:lo*sz<=s.cap*sz:=k7 _ O;rw[hcl,Nat.sub_mul];omega
   ·rw[zt]
    conv=>rhs;rw[←ht]
    rw[List.drop_take,List.drop_drop]
end Go.Vc
namespace Go.Ar
open Go Go.Vc Go.Proofs
variable {U:Hp}{F G:Rg}{Y:gQ}{tb:List cD}{bud:Nat}{ls:List Li}{b k:Nat}{l:Li}{c:cD}
theorem Oc {s:Sl}{xs:List (Int×Int×Int)}(ha:iB U s xs)(cT:Int){R:Option Addr->Int->Hp->Prop}(h0:QM xs=false->∀σ',aG U σ'->R none 2 σ')
 (h1:QM xs=true->¬(0<=cT/\cT<=65536)->∀σ',aG U σ'->R none 1 σ')
 (h2:QM xs=true->0<=cT->cT<=65536->∀σ' Y,aG U σ'->dY σ' (λq=>U.size<=q) Y (xs.map Qx) cT.toNat (List.replicate (xs.map Qx).length il)->R (some ⟨Y.p,0,none⟩) 0 σ') :
 Ku.c s cT U R:=by
 refine Ku.o ?_;unfold Ku.v;refine Aq ha λv e=>?_;cases hv:QM xs
 ·exact cJ rfl (h0 hv v e)
 refine bZ rfl (bW.intro (cL (λz=>cJ rfl (h1 hv O v e)) λz=>cL (λy=>h1 hv O v e) λy=>?_));have d:=Qg ha e;have D:=(Qr xs).1 hv;refine UC d hv λcH b e1 j=>Gj λg F e2 A=>nw (cs:=[.slice cH.a cH.len cH.cap,.int .i64 cT,.map (some b.size)]) λv3 E m x=>?_;have s1:=e1.1;have s0:=e.1;refine h2 hv O O v3 ⟨g.size,b.size,cH,[]⟩ (((e.trans e1).trans e2).trans m) ⟨by rw[zi];omega,λc C=>?_,by simp,by simp,?_⟩
 ·obtain⟨i,w⟩:=zN C;exact(HV d hv w).2
 ·refine⟨λq=>if q=g.size then .hd else if q=b.size then .mp else .cH,λi=>?_⟩
  cases i with
  | hd=>
   refine⟨⟨by show U.size<=g.size;omega,by simp⟩,?_⟩;have:((cT.toNat:Nat):Int)=cT:=by omega
   simp only[vU,this];exact x
  | mp=>
   refine⟨⟨by show U.size<=b.size;omega,?_⟩,m.fC (A .i64 .p) id⟩;show(if b.size=g.size then nU.hd else if b.size=b.size then nU.mp else nU.cH)=.mp
   rw[zA O,zB rfl]
  | cH=>
   have B:=aH.aF (aH.aF (aH.mono j (G:=λq=>v.size<=q/\q<b.size) λq r u=>⟨u,r⟩) e2) m;refine aH.mono B λq _ r=>⟨O,?_⟩;show(if q=g.size then nU.hd else if q=b.size then nU.mp else nU.cH)=.cH
   rw[zA O,zA O]
  | li k=>
   simp only[CC,np,gW,List.find?_nil,Option.map_none];cases hk:(List.replicate (xs.map Qx).length il)[k]? with
   | none=>trivial
   | some l=>simp only[mD]at hk;split at hk<;>simp_all
def kN (f:Nat->Nat)(l:List (Int×Option Addr)):Nat:=(l.map λx=>f x.1.toNat).sum
theorem Jl (f:Nat->Nat):∀{l:List (Int×Option Addr)} {n:Int} {x:Option Addr},(l.map (·.1)).Nodup->(n,x)∈l->kN f l=f n.toNat+kN f (l.filter λy=>!(y.1==n))
 | [],_,_,_,h=>by simp at h
 | y::l,n,x,hn,h=>by
  simp only[zX,zo]at hn;rcases zW.1 h with h1|h1
  ·subst h1;have:l.filter (λy=>!(y.1==n))=l:=by
    rw[qF];intro z hz;have:z.1≠n:=λe=>hn.1 (zD.2 ⟨z,hz,e⟩);simpa using this
   rw[yX aA,this];simp[kN]
  ·have a:y.1≠n:=λe=>hn.1 (zD.2 ⟨_,h1,e.symm⟩);rw[xQ (by simpa using a)];have:=Jl f hn.2 h1;simp only[kN,zX,mN]at *;omega
theorem PL (n a v:Nat):((List.range n).map λj=>if j=a then v else 0).sum=if a<n then v else 0:=by
 induction n with
 | zero=>simp
 | succ n ih=>
  rw[kI,lr,xS,ih];by_cases h:a=n
  ·subst h;simp
  ·by_cases h2:a<n
   ·rw[zB h2,zB O];simp[Ne.symm h]
   ·rw[zA h2,zA O];simp[Ne.symm h]
theorem Rw (l:List Nat)(f g:Nat->Nat):(l.map λj=>f j+g j).sum=(l.map f).sum+(l.map g).sum:=by
 induction l with
 | nil=>rfl
 | cons x l ih=>simp only[zX,mN,ih];omega
theorem IX (f:Nat->Nat)(n:Nat):∀(ps:List (Nat×Nat)),(ps.map (·.1)).Nodup->(∀x∈ps,x.1<n)->(ps.map λx=>f x.1).sum=((List.range n).map λj=>if j∈ps.map (·.1)then f j else 0).sum
 | [],_,_=>by
  have:((List.range n).map λj=>if j∈([]:List (Nat×Nat)).map (·.1)then f j else 0)=(List.range n).map λ_=>0:=by simp
  rw[this]
  induction n with
  | zero=>rfl
  | succ n a=>rw[kI,lr,xS];simp at *;exact a
 | x::ps,hn,hl=>by
  simp only[zX,zo]at hn;have a:=IX f n ps hn.2 λy b=>hl y (by simp[b]);rw[zX,mN,a];have e:((List.range n).map λj=>if j∈(x::ps).map (·.1)then f j else 0)=(List.range n).map λj=>(if j=x.1 then f x.1 else 0)+(if j∈ps.map (·.1)then f j else 0):=by
   apply k5;intro j _;by_cases hj:j=x.1
   ·subst hj;rw[zB aA,zB rfl,zA hn.1];rfl
   ·rw[zA hj,zG];by_cases hm:j∈ps.map (·.1)
    ·rw[zB hm,zB (by simp only[zX,zW];exact .inr hm)]
    ·rw[zA hm,zA (by simp only[zX,zW,not_or];exact⟨hj,hm⟩)]
  rw[e,Rw,PL,zB (hl x aA)]
def qD (tb:List cD)(ls:List Li)(k:Nat):Nat:=match tb[k]?,ls[k]? with
 | some c,some l=>c.size*l.os.length
 | _,_=>0
theorem JC:∀(tb:List cD) (ls:List Li),ls.length=tb.length->KA tb ls=((List.range tb.length).map (qD tb ls)).sum
 | [],[],_=>rfl
 | c::tb,l::ls,h=>by
  have ih:=JC tb ls (by simpa using h);simp only[KA]at ih;simp only[KA,List.zip_cons_cons,zX,mN,zV,ih,Cs,mC];rfl
 | [],_::_,h=>by simp at h
 | _::_,[],h=>by simp at h
theorem dY.nil (h:dY U F Y tb bud ls)(hf:gW Y.ps k=none)(hl:ls[k]?=some l):l=il:=by
 obtain⟨G,_,a⟩:=h.sep.get (.li k);simp only[CC,np,hf,hl]at a;exact a
theorem dY.we (h:dY U F Y tb bud ls):(Y.ps.map (·.1)).Nodup:=by
 have:=h.map.nodup;have e:(jY Y.ps).map (·.1)=(Y.ps.map (·.1)).map λ(n:Nat)=>(n:Int):=by simp[jY]
 rw[e]at this;exact List.Pairwise.of_map (λ(n:Nat)=>(n:Int)) (λa b d e=>d (by rw[e])) this
theorem dY.bytes (h:dY U F Y tb bud ls):kN (qD tb ls) (jY Y.ps)=KA tb ls:=by
 have e1:kN (qD tb ls) (jY Y.ps)=(Y.ps.map λx=>qD tb ls x.1).sum:=by simp[kN,jY,Function.comp_def]
 rw[e1,IX _ tb.length _ h.we h.keys,JC _ _ h.len]
 congr 1
 apply k5;intro j hj;have a:=ze.1 hj;by_cases hm:j∈Y.ps.map (·.1)
 ·rw[zB hm]
 ·rw[zA hm];have d:gW Y.ps j=none:=by
   unfold gW;simp only[uV,qw,za];exact λx g e=>hm (zD.2 ⟨x,g,e⟩)
  have b:ls[j]?=some (ls[j]'(by rw[h.len];exact a)):=cQ _;have:=h.nil d b;unfold qD;rw[cQ a,b,this];rfl
theorem FP:∀(tb:List cD) (ls:List Li),(∀c∈tb,c.ok)->(∀l∈ls,fS l)->KA tb ls<=tb.length*131072
 | [],_,_,_=>by simp[KA]
 | _::_,[],_,_=>by simp[KA]
 | c::tb,l::ls,h1,h2=>by
  have ih:=FP tb ls (λc a=>h1 c (by simp[a])) (λl b=>h2 l (by simp[b]));simp only[KA]at ih;simp only[KA,List.zip_cons_cons,zX,mN,zV];have a:=h1 c aA;unfold cD.ok at a;have d:=(h2 l aA).many;have e:c.size*l.os.length<=512*256:=lV O d;omega
theorem NS (h:dY U F Y tb bud ls)(hok:∀l∈ls,fS l):KA tb ls<=5242880:=by
 have b:=FP tb ls h.ok hok;have a:=h.lA;omega
theorem dY.Ts (h:dY U F Y tb bud ls):∀l∈ls,fS l:=by
 intro l hl;obtain⟨k,a⟩:=zN hl;cases hf:gW Y.ps k with
 | none=>rw[h.nil hf a];exact fS.nil
 | some b=>
  obtain⟨G,_,d,_⟩:=h.xi hf a;exact d.2.1
theorem ED (h:dY U F Y tb bud ls){R:aN}(hR:∀σ',aG U σ'->R ((KA tb ls:Nat):Int) σ'):XV.c (aW Y.p) U R:=by
 refine XV.o ?_;unfold XV.v;have hle:=NS h h.Ts;have hT:=h.bytes;refine Hq h (bZ rfl (bO (h.hd.rM rfl ?_)));refine xu (a:=bN) h.map (λg (z:Int) v=>∃n:Nat,z=(n:Int)/\n+kN (qD tb ls) g=KA tb ls/\(∀e∈g,e∈jY Y.ps)/\(g.map (·.1)).Nodup/\aG U v) ?_ ?_ ?_
 ·intro v hz e;exact⟨0,rfl,by rw[hT];omega,λe he=>he,h.map.nodup,e⟩
 ·rintro z v ⟨n,rfl,H,_,_,e⟩;simp only[kN,sx,List.sum_nil,zw]at H;rw[H];exact hR v e
 ·rintro g n x z v v' J ⟨m,rfl,H,u,w,e⟩ W ho hlt hJ;have X:aG U v':=e.only ho (.inr (zC _));have P:=h.aF X;have j:=u _ W;simp only[jY,zD,Prod.mk.injEq]at j;obtain⟨⟨k,b⟩,A,D,B⟩:=j;simp only at D B;subst D;subst B;have E:=h.keys _ A;simp only at E;have M:tb[k]?=some tb[k]:=cQ E;have Q:ls[k]?=some (ls[k]'(by rw[h.len];exact E)):=cQ _;generalize tb[k]=c at M;generalize (ls[k]'(by rw[h.len];exact E))=l at Q;have S:gW Y.ps k=some b:=Dm h.map.nodup A;obtain⟨G,hG,hL,_⟩:=P.xi S Q;obtain⟨_,hok,s,N,L,Z⟩:=hL;have K:s.len=l.os.length:=by have:=L.1;simp[Wu]at this;omega
  have hb:qD tb ls k=c.size*l.os.length:=by unfold qD;rw[M,Q]
  have r:=Jl (qD tb ls) w W;simp only[dE]at r;refine bO (P.hd.rS rfl (r8 P.iW M (d:=0) O ?_));simp only[zT];refine bO (N.rS rfl ?_);have C:m+c.size*l.os.length+kN (qD tb ls) (List.filter (λy=>!(y.1==(k:Int))) g)=KA tb ls:=by
   have V:=r;rw[hb]at V;rw[←H,V,qu]
  refine cC (m:=c.size*l.os.length) (by simp only[K];simp) O (cC (m:=m+c.size*l.os.length) O O (hJ _ v' rfl rfl ⟨_,rfl,C,λy hy=>u y (zH.1 hy).1,w.sublist (List.filter_sublist.map _),X⟩))
theorem RK (h:dY U F Y tb bud ls){R:aO}(hR:∀σ',aG U σ'->R (decide (bud<KA tb ls)) σ'):Yt.c (aW Y.p) U R:=by
 refine Yt.o ?_;unfold Yt.v;have e:decide (((KA tb ls:Nat):Int)>(bud:Int))=decide (bud<KA tb ls):=by rw[decide_eq_decide];omega
 refine Jn.intro (Hq h (cJ rfl (bO ⟨ED h λσ' a=>(a.bX h.hd id).rI rfl ?_,h.hd.rI rfl (ED h λσ' a=>?_)⟩)))
 ·rw[e];exact hR σ' a
 ·rw[e];exact hR σ' a
def AK (f:cD->Li->List Int×Li)(fn:Nat):Prop:=∀{U:Hp} {G:Rg} {b:Nat} {l:Li} {c:cD},jj b l U G->c.ok->∀{R:Sl->Hp->Prop},
 (∀s z σ',Ext (· = b) U σ'->U.size<=z->bR s 1 (Wu (f c l).1) σ' (λq=>U.size<=q/\q<z)->jj b (f c l).2 σ' (λq=>q=b\/z<=q)->R s σ') →
 UE Tryz.prog ⟨fn,#[],#[]⟩ [.pointer (some ⟨b,0,none⟩),.int .i64 (c.batch:Int)] [.one .s] U R
theorem Tg:AK Z6 183:=by
 intro U G b l c h hc R hR;refine oP (all := #[.pointer (some ⟨b,0,none⟩),.int .i64 (c.batch:Int)]) (by kernel_rfl) aA ?_;refine YO.o ?_;unfold YO.v;have j:=h;obtain⟨_,i,s,e,d,g⟩:=h;have a:s.len=l.os.length:=by have:=d.1;simp[Wu]at this;omega
 refine bO (e.rS rfl ?_);simp only[a];exact GM j (zC _) hR
theorem Mi:AK Vp 181:=by
 intro U G b l c h hc R hR;refine oP (all := #[.pointer (some ⟨b,0,none⟩),.int .i64 (c.batch:Int)]) (by kernel_rfl) aA ?_;refine XB.o ?_;unfold XB.v;have Q:=h;obtain⟨_,g,s,x,P,K⟩:=h;have o1:=g.low;have o2:=g.many;have o3:=g.lim;have A:=J8 hc g;unfold cD.ok at hc;refine bO (x.rI rfl (cC (m:=l.low+1) O O (nz aB (cC (m:=(l.low+1)/2) (by rw[Xq O];omega) O ?_))));refine GM Q O λout z v e N S y=>?_;have H:=y;obtain⟨_,M,s1,d,w,F⟩:=y;have r:s1.len=(gV ((l.low+1)/2) l).2.os.length:=by have:=w.1;simp[Wu]at this;omega
 refine Jn.intro ?_;have i:∀(j:Hp) (lim:Nat),Ext (· = b) v j->lim=(if l.lim>c.batch then max (l.lim-c.batch) c.batch else l.lim)->bY j b (mK s1 {(gV ((l.low+1)/2) l).2 with lim:=lim}) →
  bU (some ⟨b,0,none⟩) λB=>ji (B.add 0) j λD=>bU (some ⟨b,0,none⟩) λC=>eP (C.add 2) (.int .i64 ((D.len:Nat):Int)) j λv2=>R out v2:=by
  intro j lim e1 hlim a;refine bO (a.rS rfl (bO (a.s1 (by simp[mK]) λv2 o2 u=>?_)));have e2:=e1.trans o2.ext;have V:=d.lt;refine hR out z v2 (e.trans e2) N (aI.bV S e2 λq _ J L=>?_) ?_
  ·have:=x.lt;omega
  ·refine⟨.inl rfl,A,s1,?_,aH.bV w e2 λq _ J L=>J.2 L,F⟩;simp only[r]at u;subst hlim;exact u
 refine bO (d.rI rfl ?_);refine cL (λE=>?_) λE=>?_
 ·have p:l.lim>c.batch:=by simp only[gV]at E;omega
  refine bO (d.rI rfl (cC (m:=l.lim-c.batch) (by simp only[gV];omega) O (bO (d.s1 (by simp[mK]) λj o1 a=>i j (max (l.lim-c.batch) c.batch) o1.ext (by rw[zB p]) ?_))));have:(if(c.batch:Int)>((l.lim-c.batch:Nat):Int)then(c.batch:Int)else((l.lim-c.batch:Nat):Int))=((max (l.lim-c.batch) c.batch:Nat):Int):=by split<;>omega
  rw[this]at a;exact a
 ·have p:¬l.lim>c.batch:=by simp only[gV]at E;omega
  exact i v l.lim (Ext.refl _ _) (by rw[zA p]) d
def oV (x:Nat×Sl):List Value:=[.int .i64 (x.1:Int),.slice x.2.a x.2.len x.2.cap]
def fO (l:List (Nat×Sl)):List Value:=l.flatMap oV
theorem Vm (l:List (Nat×Sl)):(fO l).length=l.length*2:=by
 induction l with
 | nil=>rfl
 | cons x l ih=>
  have e:fO (x::l)=oV x++fO l:=rfl;have e2:(oV x).length=2:=rfl;rw[e,zR,ih,e2,zV];omega
theorem HG (a b:List (Nat×Sl)):fO (a++b)=fO a++fO b:=by simp[fO]
theorem Ga {l:List (Nat×Sl)}:∀v∈fO l,dJ v=true:=by
 intro v hv;obtain⟨p,_,hp⟩:=r6.1 hv;simp only[oV,zW,yj,or_false]at hp;rcases hp with rfl|rfl<;>rfl
theorem CU {l:List (Nat×Sl)}{i:Nat}{p:Nat×Sl}(h:l[i]?=some p){d:Nat}(hd:d<2):(fO l)[2*i+d]?=(oV p)[d]? := by
 induction l generalizing i with
 | nil=>simp at h
 | cons x l ih=>
  have e:fO (x::l)=oV x++fO l:=rfl;have e2:(oV x).length=2:=rfl;rw[e];cases i with
  | zero=>
   simp at h;subst h;rw[zQ O];congr 1;omega
  | succ i=>
   rw[zg O,e2,show 2*(i+1)+d-2=2*i+d by omega];exact ih (by simpa using h)
def kV (ps:List (Nat×Sl))(bs:List Bt)(U:Hp)(D:Rg):Prop:=ps.length=bs.length/\∀(i:Nat) p x,ps[i]?=some p->bs[i]?=some x->p.1=x.1/\cS p.2 1 (Wu x.2) U D/\p.2.len<=p.2.cap
theorem kV.loc (ps:List (Nat×Sl))(bs:List Bt):dH (kV ps bs):=λU g F G h e d=>⟨h.1,λi p x a b=>⟨(h.2 i p x a b).1,cS.loc _ _ _ _ _ _ _ (h.2 i p x a b).2.1 e d,(h.2 i p x a b).2.2⟩⟩
def uN (ps:List (Nat×Sl)):Prop:=ps.Pairwise λp q=>∀a a',p.2.a=some a->q.2.a=some a'->a.block≠a'.block
theorem uN.snoc {ps:List (Nat×Sl)}{bs:List Bt}{U v:Hp}{D X:Rg}{s:Sl}{xs:List Int}(h:uN ps)(hB:kV ps bs U D)(hne:∀x∈bs,x.2≠[])(hs:cS s 1 (Wu xs) v X)(hx:xs≠[])(hd:∀b,b<U.size->D b->¬X b)(k:Nat):uN (ps++[(k,s)]):=by
 refine pC.2 ⟨h,Df _ _,λp hp q u=>?_⟩;rw[zZ]at u;subst u;intro a a' h1 h2 e;obtain⟨i,r⟩:=zN hp;have d:=(cV.1 r).1;have g:bs[i]?=some (bs[i]'(by rw[←hB.1];exact d)):=cQ _;generalize (bs[i]'(by rw[←hB.1];exact d))=y at g;obtain⟨_,m,_⟩:=hB.2 i p y r g;have j:=m.bX (by simpa[Wu]using hne y (zE g)) ⟨a,h1,rfl⟩;have w:=hs.bX (by simpa[Wu]using hx) ⟨a',h2,rfl⟩;rw[e]at j;exact hd _ j.2 j.1 w.1
def gC (s:Sl)(bs:List Bt):Hp->Rg->Prop:=λU F=>∃(ps:List (Nat×Sl)) (D:Rg),dL s 2 (fO ps) U (λq=>F q/\¬D q)/\kV ps bs U D/\(∀q,D q->F q)/\uN ps/\∀x∈bs,x.2≠[]
theorem gC.loc (s:Sl)(bs:List Bt):dH (gC s bs):=λU r F G ⟨m,D,p,i,g,j⟩ e b=>
 ⟨m,λq=>D q/\q<U.size,dL.loc _ _ _ _ _ _ _ p e λq a d=>⟨⟨(b q a d.1).1,λhd=>d.2 hd.1⟩,(b q a d.1).2⟩,kV.loc _ _ _ _ _ _ i e λq a hd=>⟨⟨hd,a⟩,(b q a (g q hd)).2⟩,λq a=>(b q a.2 (g q a.1)).1,j⟩
theorem gC.nil (U:Hp)(F:Rg)(a:Option Addr):gC ⟨a,0,0⟩ [] U F:=⟨[],λ_=>False,dL.nil _ _ _ _,⟨rfl,λi p x h=>by simp at h⟩,λq h=>h.elim,List.Pairwise.nil,by simp⟩
theorem gC.len {s:Sl}{bs:List Bt}(h:gC s bs U F):s.len=bs.length:=by
 obtain⟨d,D,b,a,_⟩:=h;have:=b.1;rw[Vm]at this;have:=a.1;omega
theorem gC.cap {s:Sl}{bs:List Bt}(h:gC s bs U F):s.len<=s.cap:=by
 obtain⟨b,D,a,_⟩:=h;exact a.cap
def HQ:Prop:=∀{U:Hp} {F:Rg} {s:Sl} {xs:List (Nat×Sl)},bR s 2 (fO xs) U F->(∀x∈xs,x.1<64)->xs.length<=1000->∀{R:aP},
 (∀xs' σ',xs'.Perm xs->xs'.Pairwise (λa b=>a.1<=b.1)->Ext F U σ'->bR s 2 (fO xs') σ' F->R σ')->Qh.c s ⟨232,#[],#[]⟩ U R
theorem Jd:∀{a b:List Nat},a.Pairwise (· < ·)->b.Pairwise (· < ·)->(∀x,x∈a↔x∈b)->a=b
 | [],[],_,_,_=>rfl
 | [],y::b,_,_,h=>by have:=(h y).2 aA;simp at this
 | x::a,[],_,_,h=>by have:=(h x).1 aA;simp at this
 | x::a,y::b,ha,hb,h=>by
  rw[nB]at ha hb;have e:x=y:=by
   rcases zW.1 ((h x).1 aA)with h1|h1
   ·exact h1
   ·rcases zW.1 ((h y).2 aA)with h2|h2
    ·exact h2.symm
    ·have:=ha.1 y h2;have:=hb.1 x h1;omega
  subst e
  congr 1
  refine Jd ha.2 hb.2 λz=>?_;have d:=h z;simp only[zW]at d;constructor
  ·intro hza;have:=ha.1 z hza;rcases d.1 (.inr hza)with h1|h1
   ·omega
   ·exact h1
  ·intro hzb;have:=hb.1 z hzb;rcases d.2 (.inr hzb)with h1|h1
   ·omega
   ·exact h1
theorem Gi {f:cD->Li->List Int×Li}{x:Bt}:x∈KI f tb ls↔∃c l,tb[x.1]?=some c/\ls[x.1]?=some l/\x.2=(f c l).1/\x.2≠[]:=by
 unfold KI;rw[vj];constructor
 ·rintro⟨k,hk,h⟩;split at h
  ·rename_i c l hc hl;split at h
   ·cases h
   ·rename_i hne;cases h;exact⟨c,l,hc,hl,rfl,hne⟩
  ·cases h
 ·rintro⟨c,l,hc,hl,e,hne⟩;refine⟨x.1,ze.2 (cV.1 hc).1,?_⟩;rw[hc,hl];simp only;rw[zA (by rw[←e];exact hne),←e]
theorem Φ {f:cD->Li->List Int×Li}:((KI f tb ls).map (·.1)).Pairwise (· < ·):=by
 unfold KI;have key:∀(n:Nat),(((List.range n).filterMap λk=>match tb[k]?,ls[k]? with
  | some c,some l=>if(f c l).1=[]then none else some ((k,(f c l).1):Bt)
  | _,_=>none).map (·.1)).Pairwise (· < ·)/\∀x∈((List.range n).filterMap λk=>match tb[k]?,ls[k]? with
  | some c,some l=>if(f c l).1=[]then none else some ((k,(f c l).1):Bt)
  | _,_=>none),x.1<n:=by
  intro n
  induction n with
  | zero=>simp
  | succ n ih=>
   rw[kI,xw,lr];refine⟨pC.2 ⟨ih.1,?_,?_⟩,?_⟩
   ·simp only[AO,List.filterMap_nil];split<;>simp
   ·intro a ha b hb;obtain⟨x,g,rfl⟩:=zD.1 ha;obtain⟨y,e,rfl⟩:=zD.1 hb;have j:=ih.2 x g;obtain⟨m,i,d⟩:=vj.1 e;clear e hb ha;simp only[zZ]at i;subst i;split at d
    ·split at d
     ·cases d
     ·cases d;exact j
    ·cases d
   ·intro x g;rcases zS.1 g with g|g
    ·have:=ih.2 x g;omega
    ·obtain⟨m,i,e⟩:=vj.1 g;simp only[zZ]at i;subst i;split at e
     ·split at e
      ·cases e
      ·cases e;omega
     ·cases e
 exact(key tb.length).1
def nM (todo:List (Int×Option Addr))(k:Nat):Prop:=((k:Nat):Int)∈todo.map (·.1)
instance (todo:List (Int×Option Addr)) (k:Nat):Decidable (nM todo k):=by unfold nM;infer_instance
theorem GP {todo:List (Int×Option Addr)}{m k:Nat}:nM (todo.filter λy=>!(y.1==(m:Int))) k↔nM todo k/\k≠m:=by
 unfold nM;simp only[zD,zH,mS,kR];constructor
 ·rintro⟨y,⟨h1,h2⟩,h3⟩;exact⟨⟨y,h1,h3⟩,λe=>h2 O⟩
 ·rintro⟨⟨y,h1,h3⟩,h2⟩;exact⟨y,⟨h1,λe=>h2 O⟩,h3⟩
structure yp (f:cD->Li->List Int×Li) (tb:List cD) (ls:List Li) (todo:List (Int×Option Addr)) (ls':List Li) (outs:List Bt):Prop where
 l:∀k c l,tb[k]?=some c->ls[k]?=some l->ls'[k]?=some (if nM todo k then l else(f c l).2)
 n:(outs.map (·.1)).Nodup
 o:∀x:Bt,x∈outs↔∃c l,tb[x.1]?=some c/\ls[x.1]?=some l/\¬nM todo x.1/\x.2=(f c l).1/\x.2≠[]
theorem yp.step {f:cD->Li->List Int×Li}{todo:List (Int×Option Addr)}{ls':List Li}{outs:List Bt}(h:yp f tb ls todo ls' outs)(hc:tb[k]?=some c)(hl:ls[k]?=some l)(hk:nM todo k) :
 yp f tb ls (todo.filter λy=>!(y.1==(k:Int))) (ls'.set k (f c l).2) (if(f c l).1=[]then outs else outs++[(k,(f c l).1)]):=by
 have A:=h.l k c l hc hl;have z:=(cV.1 A).1;have w:∀x∈outs,x.1≠k:=λx g e=>by
  obtain⟨_,_,_,_,C,_⟩:=(h.o x).1 g;rw[e]at C;exact C hk
 refine⟨λj d m hd p=>?_,?_,λx=>?_⟩
 ·by_cases hj:j=k
  ·subst hj;rw[hc]at hd;cases hd;rw[hl]at p;cases p;rw[zK z,zA (by rw[GP];exact λg=>g.2 rfl)]
  ·rw[zd (Ne.symm hj),h.l j d m hd p]
   congr 1
   by_cases r:nM todo j
   ·rw[zB r,zB (GP.2 ⟨r,hj⟩)]
   ·rw[zA r,zA λg=>r (GP.1 g).1]
 ·split
  ·exact h.n
  ·rw[lr,n0];refine⟨h.n,by simp,λa D b B e=>?_⟩;simp only[zX,sx,zZ]at B;subst B;obtain⟨x,g,e2⟩:=zD.1 D;exact w x g (e2.trans e)
 ·have u:(∃d m,tb[x.1]?=some d/\ls[x.1]?=some m/\¬nM (todo.filter λy=>!(y.1==(k:Int))) x.1/\x.2=(f d m).1/\x.2≠[])↔x∈outs\/(x=(k,(f c l).1)/\(f c l).1≠[]):=by
   constructor
   ·rintro⟨d,m,hd,p,r,e,i⟩;by_cases hj:x.1=k
    ·right;rw[hj]at hd p;rw[hc]at hd;cases hd;rw[hl]at p;cases p;exact⟨Prod.ext hj e,by rw[←e];exact i⟩
    ·left;exact(h.o x).2 ⟨d,m,hd,p,λg=>r (GP.2 ⟨g,hj⟩),e,i⟩
   ·rintro(g|⟨rfl,i⟩)
    ·obtain⟨d,m,hd,p,r,e,i⟩:=(h.o x).1 g;exact⟨d,m,hd,p,λs=>r (GP.1 s).1,e,i⟩
    ·exact⟨c,l,hc,hl,λs=>(GP.1 s).2 rfl,rfl,i⟩
  rw[u];split
  ·rename_i he;constructor
   ·exact .inl
   ·rintro(g|⟨_,i⟩)
    ·exact g
    ·exact absurd he i
  ·rename_i he;rw[zS,zZ];constructor
   ·rintro(g|g)
    ·exact .inl g
    ·exact .inr ⟨g,he⟩
   ·rintro(g|g)
    ·exact .inl g
    ·exact .inr g.1
set_option maxRecDepth 4000 in
theorem Ee (hso:HQ){f:cD->Li->List Int×Li}{fn:Nat}(hf:AK f fn)(hnil:∀c,c.ok->f c il=([],il))(h:dY U F Y tb bud ls){R:Sl->Hp->Prop}
 (hR:∀σ' s (Q:Rg),Ext F U σ'->(∀q,Q q->U.size<=q)->dY σ' (λq=>Grow F U q/\¬Q q) Y tb bud (KE f tb ls)->gC s (KI f tb ls) σ' Q->R s σ') :
 Xl.c (aW Y.p) ⟨fn,#[],#[]⟩ U R:=by
 refine Xl.o ?_;unfold Xl.v;refine Hq h (bZ rfl (bO (h.hd.rM rfl ?_)));have htb:=h.lA;refine xu (a:=.s) h.map (λC (out:Sl) v=>∃(ls':List Li) (w:List Bt) (Q D:Rg) (ps:List (Nat×Sl)),Ext F U v/\(∀q,Q q->U.size<q)/\dY v (λq=>(Cut F U q\/U.size<q)/\¬Q q) Y tb bud ls' ∧
  bR out 2 (fO ps) v (λq=>Q q/\¬D q)/\kV ps w v D/\(∀q,D q->Q q)/\yp f tb ls C ls' w/\(∀e∈C,e∈jY Y.ps)/\(C.map (·.1)).Nodup/\uN ps) ?_ ?_ ?_
 ·intro v hz e;refine⟨ls,[],λ_=>False,λ_=>False,[],aG.to e,λq g=>g.elim,((dY.loc.aF h.cut e).mono λq _ g=>⟨.inl g,id⟩),bR.nil _ _ _ _,⟨rfl,λi p x hp=>by simp at hp⟩,λq g=>g.elim,⟨λk c l E M=>?_,by simp,λx=>?_⟩,λe N=>N,h.map.nodup,List.Pairwise.nil⟩
  ·by_cases hi:nM (jY Y.ps) k
   ·rw[zB hi,M]
   ·rw[zA hi];have hf0:gW Y.ps k=none:=by
     unfold gW;simp only[uV,qw,za];exact λx r e=>hi (zD.2 ⟨((x.1:Int),some ⟨x.2,0,none⟩),zD.2 ⟨x,r,rfl⟩,by rw[e]⟩)
    have:=h.nil hf0 M;rw[M,this,hnil c (h.ok c (zE E))]
  ·simp only[yj,false_iff];rintro⟨c,l,E,M,hi,e,hne⟩;have hf0:gW Y.ps x.1=none:=by
    unfold gW;simp only[uV,qw,za];exact λy V e=>hi (zD.2 ⟨((y.1:Int),some ⟨y.2,0,none⟩),zD.2 ⟨y,V,rfl⟩,by rw[e]⟩)
   have:=h.nil hf0 M;rw[this,hnil c (h.ok c (zE E))]at e;exact hne e
 ·rintro out v ⟨ls',w,Q,D,ps,e,hQ,hC,W,hB,hD,Z,_,_,P⟩;have hno:∀k,¬nM [] k:=λk hk=>by simp[nM]at hk
  have hls:ls'=KE f tb ls:=by
   apply zp;intro k;by_cases hk:k<tb.length
   ·have E:tb[k]?=some tb[k]:=cQ hk;have M:ls[k]?=some (ls[k]'(by rw[h.len];exact hk)):=cQ _;rw[Z.l k _ _ E M,zA (hno k)];simp[KE,Dc,E,M]
   ·rw[zO (by rw[hC.len];omega),zO (by simp[KE,h.len];omega)]
  subst hls;have hk1:∀(i:Nat) p,ps[i]?=some p->∃x,w[i]?=some x/\p.1=x.1/\cS p.2 1 (Wu x.2) v D/\p.2.len<=p.2.cap:=λi p hp=>by
   have hi:=(cV.1 hp).1;have r:w[i]?=some (w[i]'(by rw[←hB.1];exact hi)):=cQ _;exact⟨_,r,hB.2 i p _ hp r⟩
  have B:ps.map (·.1)=w.map (·.1):=by
   apply zp;intro i;simp only[zk];cases hp:ps[i]? with
   | none=>
    have:w[i]?=none:=by
     rw[List.getElem?_eq_none_iff]at hp ⊢;rw[←hB.1];exact hp
    rw[this];rfl
   | some p=>
    obtain⟨x,r,e1,_⟩:=hk1 i p hp;rw[r];simp[e1]
  have X:∀x∈w,x.1<40:=λx r=>by
   obtain⟨c,l,E,_⟩:=(Z.o x).1 r;have:=(cV.1 E).1;omega
  have hlen:ps.length<=40:=by
   have hn:=Z.n;rw[←B]at hn;have:=hn.length_le_of_subset (l₂:=List.range 40) λj P=>by
    rw[B]at P;obtain⟨x,r,rfl⟩:=zD.1 P;exact ze.2 (X x r)
   simpa using this
  refine hso W (λp hp=>?_) O λps' v' L hsort e' hrow'=>?_
  ·have:p.1∈w.map (·.1):=by rw[←B];exact zD.2 ⟨p,hp,rfl⟩
   obtain⟨x,r,e1⟩:=zD.1 this;have:=X x r;omega
  ·have hnd:(ps'.map (·.1)).Nodup:=(L.map _).nodup_iff.2 (by rw[B];exact Z.n);have hinc:(ps'.map (·.1)).Pairwise (· < ·):=by
    refine List.Pairwise.map (R:=λa b:Nat×Sl=>a.1<b.1) _ (λa b hab=>hab) ?_;have A:ps'.Pairwise λa b=>a.1≠b.1:=qJ.1 hnd;exact(hsort.and A).imp λ{a b} hab=>by have:=hab.1;have:=hab.2;omega
   have hkk:ps'.map (·.1)=(KI f tb ls).map (·.1):=by
    refine Jd hinc Φ λj=>?_;rw[(L.map _).mem_iff,B];constructor
    ·intro P;obtain⟨x,r,rfl⟩:=zD.1 P;obtain⟨c,l,E,M,_,e1,e2⟩:=(Z.o x).1 r;exact zD.2 ⟨x,Gi.2 ⟨c,l,E,M,e1,e2⟩,rfl⟩
    ·intro P;obtain⟨x,r,rfl⟩:=zD.1 P;obtain⟨c,l,E,M,e1,e2⟩:=Gi.1 r;exact zD.2 ⟨x,(Z.o x).2 ⟨c,l,E,M,hno _,e1,e2⟩,rfl⟩
   have eQ:Ext F U v':=e.eY e' λq g=>.inr (oT (hQ q g.1));refine hR v' out Q eQ (λq g=>oT (hQ q g)) ?_ ⟨ps',D,hrow'.o,⟨?_,λi p x hp r=>?_⟩,hD,(L.pairwise_iff λ{a b} hab x y A h2 e=>hab y x h2 A e.symm).2 P,λx r=>by
    obtain⟨_,_,_,_,_,h2⟩:=Gi.1 r;exact h2⟩
   ·refine(dY.loc.bV hC e' λq _ g hq2=>g.2 hq2.1).mono λq _ g=>⟨?_,g.2⟩;rcases g.1 with r|r
    ·exact .inl r.1
    ·exact .inr (oT r)
   ·have:=congrArg List.length hkk;simpa using this
   ·have e1:p.1=x.1:=by
     have:=congrArg (λl=>l[i]?) hkk;simp only[zk,hp,r,zh,Option.some.injEq]at this;exact this
    obtain⟨j,P⟩:=zN (L.mem_iff.1 (zE hp));obtain⟨y,V,e2,hs,hcap⟩:=hk1 j p P;have e3:x.2=y.2:=by
     obtain⟨c,l,E,M,_,A,_⟩:=(Z.o y).1 (zE V);obtain⟨c',l',hc',hl',h2,_⟩:=Gi.1 (zE r);rw[←e1,e2,E]at hc';cases hc';rw[←e1,e2,M]at hl';cases hl';rw[A,h2]
    rw[e3];exact⟨e1,aH.bV hs e' λq _ g hq2=>hq2.2 g,hcap⟩
 ·rintro C n x out v v' J ⟨ls',w,Q,D,ps,e,hQ,hC,W,hB,hD,Z,hsub,hnd,P⟩ r ho hlt hJ;have e1:Ext F U v':=e.only ho (.inr (zC _));have S:dY v' (λq=>(Cut F U q\/U.size<q)/\¬Q q) Y tb bud ls':=dY.loc.bV hC ho.ext λq _ g N=>by
   rcases g.1 with A|A
   ·have:=A.2;omega
   ·omega
  have hrow1:bR out 2 (fO ps) v' (λq=>(Q q/\¬D q)/\q<v'.size):=aI.cut (aI.bV W ho.ext λq _ g N=>by have:=hQ q g.1;omega);have hB1:kV ps w v' (λq=>D q/\q<v'.size):=(kV.loc _ _).cut ((kV.loc _ _).bV hB ho.ext λq _ g N=>by have:=hQ q (hD q g);omega);have hmem:=hsub _ r;simp only[jY,zD,Prod.mk.injEq]at hmem;obtain⟨⟨k,b⟩,hkb,hk1,hx1⟩:=hmem;simp only at hk1 hx1;subst hk1;subst hx1;have hk:=h.keys _ hkb;simp only at hk;have E:tb[k]?=some tb[k]:=cQ hk;have M:ls[k]?=some (ls[k]'(by rw[h.len];exact hk)):=cQ _;generalize tb[k]=c at E;generalize (ls[k]'(by rw[h.len];exact hk))=l at M;have hcok:=h.ok c (zE E);have hlk:gW Y.ps k=some b:=Dm h.map.nodup hkb;have hin:nM C k:=zD.2 ⟨_,r,rfl⟩;have hl':ls'[k]?=some l:=by rw[Z.l k c l E M,zB hin]
  have K:=Z.step E M hin;have hmF:(λq=>(Cut F U q\/U.size<q)/\¬Q q) Y.m:=by
   obtain⟨H,hH,hm⟩:=S.sep.get .mp;exact hH _ hm.1
  obtain⟨G,hG,hL,hGm,hput⟩:=S.xi hlk hl';have hbF:=hG b hL.1;have hbm:b≠Y.m:=λe=>hGm (e▸hL.1);have hbs:b≠U.size:=λe=>by
   subst e;rcases hbF.1 with A|A
   ·have:=A.2;omega
   ·omega
  have hblt:b<v'.size:=by obtain⟨_,_,s,hbk,_⟩:=hL;exact hbk.lt
  have hsz1:=ho.1;refine bO (S.hd.rS rfl (r8 S.iW E (d:=2) O ?_));simp only[zA (show ¬(2=0) by omega),zA (show ¬(2=1) by omega)];refine hf hL hcok λs z v5 e5 hz hr hL5=>?_;have hs5:=e5.1;obtain⟨eF,h5⟩:=hput v5 _ (λq=>q=b\/z<=q) (e5.sub λq g=>by rw[g];exact hL.1) (λq g=>g.imp (λ(r:q=b)=>by rw[r];exact hL.1) λ(r:z<=q)=>O) hL5;have h5:=h5.cut;have eF5:Ext F U v5:=e1.eY eF λq g=>by
   rcases g.1 with A|A
   ·exact .inl A.1
   ·exact .inr (oT A)
  have hnb:∀q,Q q->q≠b:=λq g hqb=>hbF.2 (hqb▸g);have hrow5:=aI.bV hrow1 e5 λq _ g N=>hnb q g.1.1 N;have hB5:=(kV.loc _ _).bV hB1 e5 λq _ g N=>hnb q (hD q g.1) N;have hsl:s.len=(f c l).1.length:=by have:=hr.1;simp[Wu]at this;omega
  have hsub':∀y∈C.filter (λy=>!(y.1==(k:Int))),y∈jY Y.ps:=λy V=>hsub y (zH.1 V).1;have hnd':((C.filter λy=>!(y.1==(k:Int))).map (·.1)).Nodup:=hnd.sublist (List.filter_sublist.map _);by_cases hemp:(f c l).1=[]
  ·rw[zB hemp]at K;refine dR (by rw[hsl,hemp];simp) (hJ out v5 (e5.2 _ O λN=>hbs N.symm) (e5.2 _ S.map.lt λN=>hbm N.symm) ?_);refine⟨_,w,λq=>Q q/\q<v'.size,λq=>D q/\q<v'.size,ps,eF5,λq g=>hQ q g.1,h5.mono λq _ g=>?_,aI.mono hrow5 λq _ g=>⟨⟨g.1.1,g.2⟩,λhd=>g.1.2 hd.1⟩,hB5,λq g=>⟨hD q g.1,g.2⟩,K,hsub',hnd',P⟩;rcases g.1 with A|A|A
   ·exact⟨A.1.1,λr=>A.1.2 r.1⟩
   ·subst A;exact⟨hbF.1,λr=>hbF.2 r.1⟩
   ·exact⟨.inr O,λr=>O⟩
  ·rw[zA hemp]at K;have hpos:=qo.2 hemp;refine jt (by rw[hsl];omega) (nw (cs:=oV (k,s)) λv6 hz6 e6 hb6=>?_);have hrow6:=aI.aF hrow5 e6;have hB6:=(kV.loc _ _).aF hB5 e6;have hr6:=aI.aF (aI.cut hr) e6;have hpl:out.len=ps.length:=by have:=W.1;rw[Vm]at this;omega
   have hol:ps.length<=40:=by
    have B:w.map (·.1)⊆List.range 40:=λj P=>by
     obtain⟨x,r,rfl⟩:=zD.1 P;obtain⟨c,l,E,_⟩:=(Z.o x).1 r;have:=(cV.1 E).1;exact ze.2 O
    have:=Z.n.length_le_of_subset B;rw[hB.1];simpa using this
   refine hrow6.app (ys:=oV (k,s)) rfl rfl ?_ (λv hv=>Ga (l:=[(k,s)]) v (by simpa[fO]using hv)) ?_ ?_ mu λs' v7 hl7 e7 hr7=>?_
   ·intro j u hu;rw[add_lit,zG,hb6.cell];exact hu
   ·simp only;have:(out.len+1)*32<=41*32:=lV O O;omega
   ·simp only;omega
   have hs7:=e7.1;have e57:Ext (λq=>(Q q/\¬D q)/\q<v'.size) v5 v7:=(aG.to e6).trans e7;refine hJ s' v7 ?_ ?_ ?_
   ·rw[e57.2 _ O λr=>by have:=hQ _ r.1.1;omega];exact e5.2 _ O λN=>hbs N.symm
   ·rw[e57.2 _ (by have:=S.map.lt;omega) λr=>hmF.2 r.1.1];exact e5.2 _ S.map.lt λN=>hbm N.symm
   refine⟨_,_,λq=>Q q/\q<v'.size\/(v'.size<=q/\q<z)\/v5.size<=q,λq=>D q/\q<v'.size\/(v'.size<=q/\q<z)/\q<v5.size,ps++[(k,s)],eF5.eY e57 λq g=>.inr (oT (hQ q g.1.1)),λq g=>?_,(dY.loc.bV h5 e57 λq hq5 g r=>?_).mono λq _ g=>?_,?_,⟨?_,λi p y hp V=>?_⟩,λq g=>?_,K,hsub',hnd',P.snoc hB1 (λx r=>by
    obtain⟨_,_,_,_,_,_,h2⟩:=(Z.o x).1 r;exact h2) hr.fM hemp (λb hb r V=>by have:=r.2;have:=V.1;omega) k⟩
   ·rcases g with g|g|g
    ·exact hQ q g.1
    ·omega
    ·omega
   ·rcases g.1 with A|A|A
    ·exact A.1.2 r.1.1
    ·exact hnb q r.1.1 A
    ·have:=r.2;omega
   ·have hq5:=g.2;rcases g.1 with A|A|A
    ·exact⟨A.1.1,λr=>by
      rcases r with r|r|r
      ·exact A.1.2 r.1
      ·have:=A.2.1;omega
      ·omega⟩
    ·subst A;exact⟨hbF.1,λr=>by
      rcases r with r|r|r
      ·exact hbF.2 r.1
      ·omega
      ·omega⟩
    ·exact⟨.inr O,λr=>by
      rcases r with r|r|r<;>omega⟩
   ·rw[HG];have:fO [(k,s)]=oV (k,s):=by simp[fO]
    rw[this];refine aI.mono hr7 λq _ g=>?_;rcases g with g|g
    ·exact⟨.inl ⟨g.1.1,g.2⟩,λhd=>by
      rcases hd with hd|hd
      ·exact g.1.2 hd.1
      ·omega⟩
    ·exact⟨.inr (.inr O),λhd=>by
      rcases hd with hd|hd<;>omega⟩
   ·rw[zR,zR,hB.1];rfl
   ·rcases zq i ps.length with hi|hi
    ·rw[zQ hi]at hp;rw[zQ (by rw[←hB.1];exact hi)]at V;obtain⟨a1,a2,a3⟩:=hB6.2 i p y hp V;exact⟨a1,aH.mono (aH.bV a2 e7 λq _ g r=>r.1.2 g.1) λq _ g=>.inl g,a3⟩
    ·rw[zg hi]at hp;rw[zg (by rw[←hB.1];exact hi)]at V;have hi0:i-ps.length=0:=by
      have:=(cV.1 hp).1;simp at this;omega
     rw[hi0]at hp;rw[show i-w.length=0 by rw[←hB.1];exact hi0]at V;simp at hp V;subst hp;subst V;exact⟨rfl,aH.mono (aH.bV hr6.fM e7 λq _ g r=>by have:=r.2;have:=g.1;omega) λq _ g=>.inr g,bR.oc hr⟩
   ·rcases g with g|g
    ·exact .inl ⟨hD q g.1,g.2⟩
    ·exact .inr (.inl g.1)
theorem PI (hso:HQ)(h:dY U F Y tb bud ls){R:Sl->Hp->Prop}
 (hR:∀σ' s (Q:Rg),Ext F U σ'->(∀q,Q q->U.size<=q)->dY σ' (λq=>Grow F U q/\¬Q q) Y tb bud (KE Z6 tb ls)->gC s (KI Z6 tb ls) σ' Q->R s σ'):XO.c (aW Y.p) U R:=by
 refine XO.o ?_;unfold XO.v;exact Ee hso Tg (λc _=>RT c) h hR
theorem Sf (hso:HQ)(h:dY U F Y tb bud ls){R:Sl->Hp->Prop}
 (hR:∀σ' s (Q:Rg),Ext F U σ'->(∀q,Q q->U.size<=q)->dY σ' (λq=>Grow F U q/\¬Q q) Y tb bud (KE Vp tb ls)->gC s (KI Vp tb ls) σ' Q->R s σ'):Xb.c (aW Y.p) U R:=by
 refine Xb.o ?_;unfold Xb.v;exact Ee hso Mi O8 h hR
end Go.Ar
namespace Go.Proofs
open Go.Vc
set_option maxRecDepth 100000
def X9.h:Hn:=.q .o1 (.q (.q .o3 .aK) (.q .o1 (.q (.q .o8 (.k (.loop [(3,.one .s),(16,.I)] (.q .o1 (.q (.c .l .l) (.q (.k (.q .o3 .gE)) .o2)))))) .aL)))
def X9.v (a:R2)(b:Hp)(c:Sl->Hp->Prop):Prop:=Wz.c a b λd e=>If (!d) (c ⟨none,0,0⟩ e) (bI a 9 e λg=>ZS.c g e λh i=>Ug.c h i λj k=>WU [.s,bN] (λl=>l ⟨none,0,0⟩ 0 k) λm (n:Sl) (o:Int) p=>If (o<((j.len:Nat):Int)) (Ix j.a j.len o 1 λq=>bM q p λr=>bU a λs=>bB s 9 p λt=>Lk .i64 (.ag 4) t r p λu=>aV #[.I ((u.getD (0,0,0,0)).1),.I ((u.getD (0,0,0,0)).2.1),.I ((u.getD (0,0,0,0)).2.2.1),.I ((u.getD (0,0,0,0)).2.2.2)] 54 p λv w=>App n 4 32 54 [.I 0,.I 0,.I 0,.I 0] ⟨some v,1,1⟩ w λx y=>bL (o+1) λz=>m x z y) (c n p))
theorem X9.o {a b c}(d:X9.v a b c):X9.c a b c:=Wa Tryz.func8 (x:=X9.h) (R0 d)
def Xx.h:Hn:=.q .o2 (.q (.q .o3 .aJ) (.q (.o 12) (.q (.q .o2 .aJ) (.q .o4 .l))))
def Xx.v (a:R2)(b:Int)(c:Hp)(d:Int->Int->Hp->Prop):Prop:=Wz.c a c λe f=>If (!e) (d 0 5 f) (bI a 9 f λh=>Lk .i64 (.ag 4) h b f λi=>aV #[.I 0,.I 0,.I 0,.I 0] 54 f λj k=>aR j 0 (.I ((i.getD (0,0,0,0)).1)) k λl=>aR j 1 (.I ((i.getD (0,0,0,0)).2.1)) l λm=>aR j 2 (.I ((i.getD (0,0,0,0)).2.2.1)) m λn=>aR j 3 (.I ((i.getD (0,0,0,0)).2.2.2)) n λo=>If (!i.isSome) (d 0 8 o) (aQ j 1 o λp=>d p 0 o))
theorem Xx.o {a b c d}(e:Xx.v a b c d):Xx.c a b c d:=Wa Tryz.func10 (x:=Xx.h) (R0 e)
def Zq.h:Hn:=.q .o1 (.q (.q .o3 .aK) (.q (.cW (.held true [] (.tk [0,1,2,3,5,6,7,8,9,10,11,12,14,15,16,17] (.all [(4,.all [(13,.all [(18,.take 19 (.all [(20,.take 21 (.done))]))])])])))) (.q (.q .o6 (.k (.loop [(40,.I)] (.q .o1 (.q (.c .l .l) (.q (.k (.q .o3 (.cW (.held true [15] (.tk [0,1,2,3,4,5,6,7,8,9] (.all [(10,.all [(11,.all [(12,.take 13 (.take 14 (.all [(15,.done)])))])])])))))) .o2)))))) (.q (.q .o6 (.k (.loop [(65,.I)] (.q .o1 (.q (.c .l .l) (.q (.k (.q .o4 (.q (.cW (.gM true [7] [(8,.one .ad)] (.take 0 (.take 1 (.take 3 (.take 4 (.all [(2,.take 5 (.all [(6,.all [(7,.done)])])),(6,.all [(2,.take 5 (.all [(7,.done)]))])]))))))) (.q (.q .o4 (.k (.loop [(78,.I)] (.q .o1 (.q (.c .l .l) (.q (.k (.q .o4 (.cW (.held true [11] (.take 0 (.take 1 (.take 2 (.take 3 (.take 4 (.take 5 (.all [(6,.take 7 (.all [(8,.all [(9,.take 10 (.all [(11,.done)]))])]))]))))))))))) .o2)))))) (.cW (.held true [10] (.take 0 (.take 1 (.take 2 (.take 3 (.take 4 (.take 5 (.all [(6,.all [(7,.take 8 (.take 9 (.all [(10,.done)])))])]))))))))))))) .o2)))))) .aL))))
def Zq.v (a:R2)(b:Hp)(c:Option Addr->Hp->Prop):Prop:=Wz.c a b λd e=>If (!d) (c none e) (dP e λf=>bU a λg=>aT f g 0 λh=>bU a λi=>fR f bN ((i.add 1).add 0) λ(j:Int)=>fR f bN ((i.add 1).add 1) λ(k:Int)=>fR f bN ((i.add 1).add 2) λ(l:Int)=>fR f bN ((i.add 1).add 3) λ(m:Int)=>fR f bN ((i.add 1).add 4) λ(n:Int)=>bU a λo=>aU f o 6 λp=>bU a λq=>fR f .m (q.add 9) λ(r:Option Nat)=>Wb.c h e λs t=>And (f t) <| YE.c p t λu v=>And (f v) <| ZP.c r v λw x=>And (f x) <| aV #[.slice s.a s.len s.cap,.I j,.I k,.I l,.I m,.I n,.pointer u,.slice none 0 0,.slice none 0 0,.map w] 71 x λy z=>And (f z) <| bE a 7 z λab=>WU [bN] (λac=>ac 0 z) λad (ae:Int) af=>If (ae<((ab.len:Nat):Int)) (Ix ab.a ab.len ae 1 λag=>fW ag af λah=>dP af λai=>bU (some y) λaj=>aT ai aj 7 λak=>bU (some y) λal=>aU ai al 6 λam=>YA.c ah am af λan ao=>And (ai ao) <| aV #[.pointer an] 88 ao λap aq=>And (ai aq) <| App ak 1 8 88 [.pointer none] ⟨some ap,1,1⟩ aq λar au=>And (ai au) <| bU (some y) λav=>aR av 7 (.slice ar.a ar.len ar.cap) au λaw=>bL (ae+1) λax=>ad ax aw) (bE a 8 af λaz=>WU [bN] (λa0=>a0 0 af) λa1 (a2:Int) a3=>If (a2<((az.len:Nat):Int)) (Ix az.a az.len a2 3 λa4=>aY a4 0 a3 λa5=>aX a4 1 a3 λa6=>bA a4 2 a3 λa7=>
 aV #[.pointer none,.slice none 0 0,.nilIface] 95 a3 λa8 a9=>O1 a7 <| aR a8 0 (.pointer a5) a9 λba=>aR a8 1 (.slice a6.a a6.len a6.cap) ba λbb=>aR a8 2 (a7) bb λbc=>Jn [.ad] (λ(bd:Addr) be=>aX a8 1 be λbf=>WU [bN] (λbg=>bg 0 be) λbh (bi:Int) bj=>If (bi<((bf.len:Nat):Int)) (Ix bf.a bf.len bi 2 λbk=>aQ bk 0 bj λbl=>aX bk 1 bj λbm=>aV #[.I 0,.slice none 0 0] 98 bj λbn bo=>aR bn 0 (.I bl) bo λbp=>aR bn 1 (.slice bm.a bm.len bm.cap) bp λbq=>dP bq λbr=>aT br bd 1 λbs=>aS br bn 0 λbt=>aT br bn 1 λbu=>Wk.c bu bq λbv bw=>And (br bw) <| aV #[.I bt,.slice bv.a bv.len bv.cap] 98 bw λbx bz=>And (br bz) <| App bs 2 32 98 [.I 0,.slice none 0 0] ⟨some bx,1,1⟩ bz λb0 b1=>And (br b1) <| aR bd 1 (.slice b0.a b0.len b0.cap) b1 λb2=>bL (bi+1) λb3=>bh b3 b2) (dP bj λb4=>bU (some y) λb5=>aT b4 b5 8 λb6=>aU b4 bd 0 λb7=>aT b4 bd 1 λb8=>fR b4 .raw (bd.add 2) λ(b9:Value)=>aV #[.pointer b7,.slice b8.a b8.len b8.cap,b9] 95 bj λca cb=>And (b4 cb) <| App b6 3 48 95 [.pointer none,.slice none 0 0,.nilIface] ⟨some ca,1,1⟩ cb λcc cd=>And (b4 cd) <| bU (some y) λce=>aR ce 8 (.slice cc.a cc.len cc.cap) cd λcf=>bL (a2+1) λcg=>a1 cg cf)) λch=>dP bc λci=>aU ci a8 0 λcj=>fR ci .raw (a8.add 2) λ(ck:Value)=>
 (XW.c cj bc λcl cm=>And (ci cm) <| And (iM ck) <| aV #[.pointer none,.slice none 0 0,.nilIface] 95 cm λcn co=>And (ci co) <| O1 ck <| aR cn 0 (.pointer cl) co λcp=>aR cn 1 (.slice none 0 0) cp λcq=>aR cn 2 (ck) cq λcr=>ch cn cr) ∧ (aV #[.pointer none,.slice none 0 0,.nilIface] 95 bc λcs ct=>And (ci ct) <| XW.c cj ct λcu cv=>And (ci cv) <| And (iM ck) <| O1 ck <| aR cs 0 (.pointer cu) cv λcw=>aR cs 1 (.slice none 0 0) cw λcx=>aR cs 2 (ck) cx λcy=>ch cs cy)) (c (some y) a3)))
theorem Zq.o {a b c}(d:Zq.v a b c):Zq.c a b c:=Wa Tryz.func22 (x:=Zq.h) (R0 d)
def WT.h:Hn:=.q .o2 (.q .o8 .l)
def WT.v (a:R2)(b:Int)(c:Hp)(d:Int->Int->Hp->Prop):Prop:=YW.c a c λe f=>Y8.c e b f λg h i=>d g h i
theorem WT.o {a b c d}(e:WT.v a b c d):WT.c a b c d:=Wa Tryz.func23 (x:=WT.h) (R0 e)
def Wz.h:Hn:=.q .o1 (.q (.cW (.seq [.op,.op,.op,.cY true 6 (RI.ops 6),.op])) .l)
def Wz.v (a:R2)(b:Hp)(c:aO):Prop:=bW (λd e=>c d e) λf=>If (!a.isNone) (bE a 8 b λh=>f (decide (((h.len:Nat):Int)>0)) b) (f false b)
theorem Wz.o {a b c}(d:Wz.v a b c):Wz.c a b c:=Wa Tryz.func30 (x:=Wz.h) (R0 d)
def Xw.h:Hn:=.q .o2 (.q .gE .l)
def Xw.v (a:R2)(b c d:Int)(e:Hp)(f:Int->Int->Hp->Prop):Prop:=XX.c a b 0 c d 0 e λg h i=>f g h i
theorem Xw.o {a b c d e f}(g:Xw.v a b c d e f):Xw.c a b c d e f:=Wa Tryz.func34 (x:=Xw.h) (R0 g)
def Zf.h:Hn:=.q .o1 (.q .gE .aL)
def Zf.v (a:R2)(b c:Int)(d:Hp)(e:aN):Prop:=XX.c a b 1 0 0 c d λf g h=>e g h
theorem Zf.o {a b c d e}(f:Zf.v a b c d e):Zf.c a b c d e:=Wa Tryz.func36 (x:=Zf.h) (R0 f)
def XT.h:Hn:=.q .o1 (.q .o6 .l)
def XT.v (a:R2)(b c:Int)(d:Hp)(e:aN):Prop:=YW.c a d λf g=>YH.c f b c g λh i=>e h i
theorem XT.o {a b c d e}(f:XT.v a b c d e):XT.c a b c d e:=Wa Tryz.func40 (x:=XT.h) (R0 f)
def YW.h:Hn:=.q .o1 (.q (.q .o3 .aK) (.q .o5 .l))
def YW.v (a:R2)(b:Hp)(c:Option Addr->Hp->Prop):Prop:=Wz.c a b λd e=>If (!d) (c none e) (bF a 6 e λg=>c g e)
theorem YW.o {a b c}(d:YW.v a b c):YW.c a b c:=Wa Tryz.func48 (x:=YW.h) (R0 d)
def Vg.h:Hn:=.q .o3 (.q (.k (.q .o4 (.c .aL (.q .o4 .aJ)))) (.q (.cW (.gM true [] [(6,.one .p)] (.take 0 (.take 2 (.all [(1,.all [(3,.take 4 (.all [(5,.take 6 (.done))]))]),(3,.all [(1,.take 4 (.all [(5,.take 6 (.done))]))])]))))) (.q .gE (.q (.q .o3 (.k (.loop [(36,.I)] (.q .o1 (.q (.c .l .l) (.q (.k (.q (.cW (.held true [7] (.take 0 (.take 1 (.take 2 (.take 3 (.take 4 (.take 5 (.take 6 (.all [(7,.take 8 (.take 9 (.take 10 (.take 11 (.take 12 (.done))))))])))))))))) (.o 11))) .o2)))))) (.q (.q .o3 (.k (.loop [(62,.I)] (.q .o1 (.q (.c .l .l) (.q (.k (.q .o9 (.o 12))) .o2)))))) (.q .o3 .l))))))
def Vg.v (a:Sl)(b c d e f:Int)(g:Hp)(h:Option Addr->Int->Hp->Prop):Prop:=aV #[.I b,.I c,.I d,.I e,.I f] 23 g λi j=>ZU.c a j λk l=>If (!k) (h none 2 l) (aQ i 0 l λm=>aQ i 1 l λn=>aQ i 2 l λo=>aQ i 3 l λp=>aQ i 4 l λq=>QV.c m n o p q l λr s=>If (!r) (h none 1 s) (Jn [.p] (λ(t:R2) u=>aQ i 0 u λv=>Kt.c v u λw x y=>bU t λz=>aR z 6 (.pointer w) y λaa=>aQ i 1 aa λab=>WU [bN] (λac=>ac 0 aa) λad (ae:Int) af=>If (ae<ab) (dP af λag=>bU t λah=>aU ag ah 6 λai=>aS ag i 4 λaj=>Kv.c a ai aj af λak al am=>bE t 7 am λao=>aV #[.pointer ak] 88 am λap aq=>App ao 1 8 88 [.pointer none] ⟨some ap,1,1⟩ aq λar au=>bU t λav=>aR av 7 (.slice ar.a ar.len ar.cap) au λaw=>bL (ae+1) λax=>ad ax aw) (aQ i 2 af λay=>WU [bN] (λaz=>az 0 af) λa0 (a1:Int) a2=>If (a1<ay) (aQ i 3 a2 λa3=>Ku.c a a3 a2 λa4 a5 a6=>bE t 8 a6 λa8=>aV #[.pointer a4,.slice none 0 0,.nilIface] 95 a6 λa9 ba=>App a8 3 48 95 [.pointer none,.slice none 0 0,.nilIface] ⟨some a9,1,1⟩ ba λbb bc=>bU t λbd=>aR bd 8 (.slice bb.a bb.len bb.cap) bc λbe=>bL (a1+1) λbf=>a0 bf be) (h t 0 a2))) λbg=>dP s λbh=>aS bh i 0 λbi=>aS bh i 1 λbj=>aS bh i 2 λbk=>
 aS bh i 3 λbl=>aS bh i 4 λbm=>(Wb.c a s λbn bo=>And (bh bo) <| Nw (.map #[] 0) bo λbp bq=>And (bh bq) <| aV #[.slice bn.a bn.len bn.cap,.I bi,.I bj,.I bk,.I bl,.I bm,.pointer none,.slice none 0 0,.slice none 0 0,.map (some bp.block)] 71 bq λbr bs=>And (bh bs) <| bg (some br) bs) ∧ (Nw (.map #[] 0) s λbt bu=>And (bh bu) <| Wb.c a bu λbv bw=>And (bh bw) <| aV #[.slice bv.a bv.len bv.cap,.I bi,.I bj,.I bk,.I bl,.I bm,.pointer none,.slice none 0 0,.slice none 0 0,.map (some bt.block)] 71 bw λbx bz=>And (bh bz) <| bg (some bx) bz)))
theorem Vg.o {a b c d e f g h}(i:Vg.v a b c d e f g h):Vg.c a b c d e f g h:=Wa Tryz.func51 (x:=Vg.h) (R0 i)
def Zt.h:Hn:=.q .o1 (.q .o9 .aL)
def Zt.v (a:R2)(b:Int)(c:Hp)(d:aN):Prop:=XX.c a b 2 0 0 0 c λe f g=>d f g
theorem Zt.o {a b c d}(e:Zt.v a b c d):Zt.c a b c d:=Wa Tryz.func52 (x:=Zt.h) (R0 e)
def Yo.h:Hn:=.q .o2 (.q (.k (.q .o4 (.c .aM (.q .o5 (.c .aM (.q .gE .aK)))))) (.q .o4 (.q (.q .o2 .aK) (.q .o9 .aM))))
def Yo.v (a:R2)(b c d e f:Int)(g:Hp)(h:aN):Prop:=aV #[.I c,.I d,.I e,.I f] 106 g λi j=>Wz.c a j λk l=>If (!k) (h 5 l) (Yk.c a b l λm n=>If (!m) (h 1 n) (bE a 8 n λp=>Ix p.a p.len b 3 λq=>bA q 2 n λr=>And (iM r) <| If (!(kX r)) (h 5 n) (aQ i 0 n λs=>aQ i 1 n λt=>aQ i 2 n λu=>aQ i 3 n λv=>YJ.c a s t u v n λw x=>And (iM w) <| If (kX w) (h 1 x) (bE a 8 x λz=>Ix z.a z.len b 3 λaa=>And (iM w) <| aR aa 2 (w) x λab=>h 0 ab))))
theorem Yo.o {a b c d e f g h}(i:Yo.v a b c d e f g h):Yo.c a b c d e f g h:=Wa Tryz.func53 (x:=Yo.h) (R0 i)
def XE.h:Hn:=.q .o3 (.q (.k (.q .o4 (.c (.q .o4 .l) (.q .o5 (.c (.q .o4 .l) (.q .gE (.c (.q .o4 .l) .l))))))) (.q (.o 17) (.q .o9 (.q (.cW (.tail 4 (RI.ops 4) [.op,.op])) .l))))
def XE.v (a:R2)(b:Int)(c:Hp)(d:Bool->Int->Int->Int->Hp->Prop):Prop:=aV #[.I 0,.I 0] 108 c λe f=>Wz.c a f λg h=>If (!g) (aR e 0 (.I 0) h λi=>aR e 1 (.I 0) i λj=>aQ e 0 j λk=>aQ e 1 j λl=>d false k l 5 j) (Yk.c a b h λm n=>If (!m) (aR e 0 (.I 0) n λo=>aR e 1 (.I 0) o λp=>aQ e 0 p λq=>aQ e 1 p λr=>d false q r 1 p) (bE a 8 n λt=>Ix t.a t.len b 3 λu=>bA u 2 n λv=>And (iM v) <| If (kX v) (aR e 0 (.I 0) n λw=>aR e 1 (.I 0) w λx=>aQ e 0 x λy=>aQ e 1 x λz=>d false y z 5 x) (bE a 8 n λab=>Ix ab.a ab.len b 3 λac=>bA ac 2 n λad=>ZC.c a b (ad) n λae af ag ah=>aV #[.I 0,.I 0] 108 ah λai aj=>aR ai 0 (.I af) aj λak=>aR ai 1 (.I ag) ak λal=>bE a 8 al λan=>Ix an.a an.len b 3 λao=>And (iM ae) <| aR ao 2 (ae) al λap=>And (iM ae) <| aQ ai 0 ap λaq=>aQ ai 1 ap λar=>aR e 0 (.I aq) ap λau=>aR e 1 (.I ar) au λav=>aQ e 0 av λaw=>aQ e 1 av λax=>d (kX ae) aw ax 0 av)))
theorem XE.o {a b c d}(e:XE.v a b c d):XE.c a b c d:=Wa Tryz.func54 (x:=XE.h) (R0 e)
def YD.h:Hn:=.q .o2 (.q (.k (.q .o4 (.c .aL (.q .o3 .aJ)))) (.q .o1 (.q (.q .o6 (.k (.loop [(6,.I),(23,.I)] (.q .o1 (.q (.c .l .l) (.q (.k (.q .o3 (.q (.q .o3 (.c .l .l)) (.q .gE .o4)))) .o2)))))) (.q .o3 .l))))
def YD.v (a:R2)(b:Int)(c:Hp)(d:Int->Int->Hp->Prop):Prop:=Wz.c a c λe f=>If (!e) (d 0 5 f) (If (b<0) (d 0 1 f) (bE a 7 f λh=>WU [bN,bN] (λi=>i 0 0 f) λj (k:Int) (l:Int) m=>If (l<((h.len:Nat):Int)) (Ix h.a h.len l 1 λn=>fW n m λo=>If (k≥b) (d k 0 m) (bL (b-k) λp=>Xi.c o p m λq r s=>bL (k+q) λt=>bL (l+1) λu=>j t u s)) (d k 0 m)))
theorem YD.o {a b c d}(e:YD.v a b c d):YD.c a b c d:=Wa Tryz.func55 (x:=YD.h) (R0 e)
def ZE.h:Hn:=.q .o1 (.q (.q .o3 .aK) (.q .o1 (.q (.q .o6 (.k (.loop [(3,.I),(14,.I)] (.q .o1 (.q (.c .l .l) (.q (.k (.q .o3 .o5)) .o2)))))) .aL)))
def ZE.v (a:R2)(b:Hp)(c:aN):Prop:=Wz.c a b λd e=>If (!d) (c 0 e) (bE a 7 e λg=>WU [bN,bN] (λh=>h 0 0 e) λi (j:Int) (k:Int) l=>If (k<((g.len:Nat):Int)) (Ix g.a g.len k 1 λm=>fW m l λn=>Yj.c n l λo p=>bL (j+o) λq=>bL (k+1) λr=>i q r p) (c j l))
theorem ZE.o {a b c}(d:ZE.v a b c):ZE.c a b c:=Wa Tryz.func56 (x:=ZE.h) (R0 d)
def ZG.h:Hn:=.q (.q .o3 (.c .l .l)) (.q .o6 (.k (.loop [(12,.I)] (.q .o1 (.q (.c .l .l) (.q (.k (.q .o3 .o2)) .o2))))))
def ZG.v (a:R2)(b:Hp)(c:aP):Prop:=Wz.c a b λd e=>If (!d) (c e) (bE a 7 e λg=>WU [bN] (λh=>h 0 e) λi (j:Int) k=>If (j<((g.len:Nat):Int)) (Ix g.a g.len j 1 λl=>fW l k λm=>Zb.c m k λn=>bL (j+1) λo=>i o n) (c k))
theorem ZG.o {a b c}(d:ZG.v a b c):ZG.c a b c:=Wa Tryz.func57 (x:=ZG.h) (R0 d)
def Y4.h:Hn:=.q .o1 (.q (.q .o3 .aK) (.q .o6 .l))
def Y4.v (a:R2)(b:Hp)(c:Sl->Hp->Prop):Prop:=Wz.c a b λd e=>If (!d) (c ⟨none,0,0⟩ e) (bE a 0 e λg=>Wb.c g e λh i=>c h i)
theorem Y4.o {a b c}(d:Y4.v a b c):Y4.c a b c:=Wa Tryz.func58 (x:=Y4.h) (R0 d)
def Yv.h:Hn:=.q .o1 (.q (.q .o3 .aJ) (.q .o5 .l))
def Yv.v (a:R2)(b:Hp)(c:Int->Int->Int->Int->Int->Hp->Prop):Prop:=aV #[.I 0,.I 0,.I 0,.I 0,.I 0] 23 b λd e=>Wz.c a e λf g=>If (!f) (aR d 0 (.I 0) g λh=>aR d 1 (.I 0) h λi=>aR d 2 (.I 0) i λj=>aR d 3 (.I 0) j λk=>aR d 4 (.I 0) k λl=>aQ d 0 l λm=>aQ d 1 l λn=>aQ d 2 l λo=>aQ d 3 l λp=>aQ d 4 l λq=>c m n o p q l) (bU a λr=>bM ((r.add 1).add 0) g λs=>bM ((r.add 1).add 1) g λt=>bM ((r.add 1).add 2) g λu=>bM ((r.add 1).add 3) g λv=>bM ((r.add 1).add 4) g λw=>aR d 0 (.I s) g λx=>aR d 1 (.I t) x λy=>aR d 2 (.I u) y λz=>aR d 3 (.I v) z λaa=>aR d 4 (.I w) aa λab=>aQ d 0 ab λac=>aQ d 1 ab λad=>aQ d 2 ab λae=>aQ d 3 ab λaf=>aQ d 4 ab λag=>c ac ad ae af ag ab)
theorem Yv.o {a b c}(d:Yv.v a b c):Yv.c a b c:=Wa Tryz.func63 (x:=Yv.h) (R0 d)
def Zo.h:Hn:=.q .o1 (.q (.q (.cW (.seq [.op,.op,.op,.op,.cY false 4 (RI.ops 4),.op,.cY false 9 (RI.ops 9)])) .aK) (.q .gE .l))
def Zo.v (a:R2)(b:Int)(c:Hp)(d:ByteArray->Hp->Prop):Prop:=Wz.c a c λe f=>bW (λg h=>bW (λi j=>If i (d (ByteArray.mk #[]) j) (bE a 8 j λl=>Ix l.a l.len b 3 λm=>bA m 2 j λn=>jB Tryz.prog n "freehold/heap.name" [] [.one .str] j fun t33 v3 =>d t33 v3)) λo=>If g (o true h) (bE a 8 h λq=>Ix q.a q.len b 3 λr=>bA r 2 h λs=>And (iM s) <| o (kX s) h)) λt=>If (!e) (t true f) (Yk.c a b f λu v=>t (!u) v)
theorem Zo.o {a b c d}(e:Zo.v a b c d):Zo.c a b c d:=Wa Tryz.func64 (x:=Zo.h) (R0 e)
def XX.h:Hn:=.q .o3 (.q (.q .o5 (.q .o2 (.c (.q .o3 .l) .l))) (.k (.loop [] (.k (.q (.o 11) (.q .o1 (.c (.q (.oq 6) .l) .l)))))))
def XX.v (a:R2)(b c d e f:Int)(g:Hp)(h:Int->Int->Hp->Prop):Prop:=aV #[.I c,.I d,.I e,.I f] 106 g λi j=>aQ i 0 j λk=>aQ i 1 j λl=>aQ i 2 j λm=>aQ i 3 j λn=>Yo.c a b k l m n j λo p=>If (o != 0) (h 0 o p) (WU [] (λq=>q p) λr s=>XE.c a b s λt u v w x=>aV #[.I 0,.I 0] 108 x λy z=>aR y 0 (.I u) z λaa=>aR y 1 (.I v) aa λab=>If t (aQ y 0 ab λac=>aQ y 1 ab λad=>h ac ad ab) (r ab))
theorem XX.o {a b c d e f g h}(i:XX.v a b c d e f g h):XX.c a b c d e f g h:=Wa Tryz.func65 (x:=XX.h) (R0 i)
def Zv.h:Hn:=.q .o2 (.q (.q .o3 (.c (.q .o3 .l) .l)) (.j8 [] (.q .o4 (.q .o2 (.c (.q (.o 16) (.q .o2 (.c (.q (.o 12) (.q .o1 (.c (.q .o3 .l) .l))) .l))) .l))) (.q .o3 .l)))
def Zv.v (a:R2)(b:Int)(c:Hp)(d:Int->Int->Int->Int->Int->Hp->Prop):Prop:=aV #[.I 0,.I 0,.I 0,.I 0] 54 c λe f=>Wz.c a f λg h=>If (!g) (aR e 0 (.I 0) h λi=>aR e 1 (.I 0) i λj=>aR e 2 (.I 0) j λk=>aR e 3 (.I 0) k λl=>aQ e 0 l λm=>aQ e 1 l λn=>aQ e 2 l λo=>aQ e 3 l λp=>d m n o p 5 l) (Jn [] (λq=>aR e 0 (.I 0) q λr=>aR e 1 (.I 0) r λs=>aR e 2 (.I 0) s λt=>aR e 3 (.I 0) t λu=>aQ e 0 u λv=>aQ e 1 u λw=>aQ e 2 u λx=>aQ e 3 u λy=>d v w x y 8 u) λz=>XQ.c a b h λaa ab=>If (aa≥0) (bE a 7 ab λad=>Ix ad.a ad.len aa 1 λae=>fW ae ab λaf=>Yr.c af b ab λag ah ai aj=>If (ai==0) (bI a 9 aj λal=>Lk .i64 (.ag 4) al ah aj λam=>aV #[.I 0,.I 0,.I 0,.I 0] 54 aj λan ao=>aR an 0 (.I ((am.getD (0,0,0,0)).1)) ao λap=>aR an 1 (.I ((am.getD (0,0,0,0)).2.1)) ap λaq=>aR an 2 (.I ((am.getD (0,0,0,0)).2.2.1)) aq λar=>aR an 3 (.I ((am.getD (0,0,0,0)).2.2.2)) ar λau=>If am.isSome (aQ an 0 au λav=>aQ an 1 au λaw=>aQ an 2 au λax=>aQ an 3 au λay=>aR e 0 (.I av) au λaz=>aR e 1 (.I aw) az λa0=>aR e 2 (.I ax) a0 λa1=>aR e 3 (.I ay) a1 λa2=>aQ e 0 a2 λa3=>aQ e 1 a2 λa4=>aQ e 2 a2 λa5=>aQ e 3 a2 λa6=>d a3 a4 a5 a6 0 a2)
 (z au)) (z aj)) (z ab))
theorem Zv.o {a b c d}(e:Zv.v a b c d):Zv.c a b c d:=Wa Tryz.func68 (x:=Zv.h) (R0 e)
def QV.h:Hn:=.q .o2 (.q (.cW (.seq [.op,.op,.op,.op,.cY true 3 (RI.ops 3),.op,.cY true 4 (RI.ops 4),.op,.cY true 3 (RI.ops 3),.op,.cY true 3 (RI.ops 3),.op,.cY true 3 (RI.ops 3),.op,.cY true 3 (RI.ops 3),.op,.cY true 3 (RI.ops 3),.op,.cY true 3 (RI.ops 3),.op,.cY true 3 (RI.ops 3),.op,.cY true 3 (RI.ops 3),.op])) .l)
def QV.v (a b c d e:Int)(f:Hp)(g:aO):Prop:=aV #[.I a,.I b,.I c,.I d,.I e] 23 f λh i=>aQ h 0 i λj=>bW (λk l=>bW (λm n=>bW (λo p=>bW (λq r=>bW (λs t=>bW (λu v=>bW (λw x=>bW (λy z=>bW (λaa ab=>bW (λac ad=>g ac ad) λae=>If aa (aQ h 4 ab λaf=>ae (decide (af<=8)) ab) (ae false ab)) λag=>If y (aQ h 4 z λah=>ag (decide (ah≥0)) z) (ag false z)) λai=>If w (aQ h 3 x λaj=>ai (decide (aj<=65536)) x) (ai false x)) λak=>If u (aQ h 3 v λal=>ak (decide (al≥0)) v) (ak false v)) λam=>If s (aQ h 2 t λan=>am (decide (an<=4)) t) (am false t)) λao=>If q (aQ h 2 r λap=>ao (decide (ap≥1)) r) (ao false r)) λaq=>If o (aQ h 1 p λar=>aq (decide (ar<=4)) p) (aq false p)) λau=>If m (aQ h 1 n λav=>au (decide (av≥1)) n) (au false n)) λaw=>If k (aQ h 0 l λax=>Nz 16 <| aw ((ax.tmod 16)==0) l) (aw false l)) λay=>If (j≥32) (aQ h 0 i λaz=>ay (decide (az<=1024)) i) (ay false i)
theorem QV.o {a b c d e f g}(h:QV.v a b c d e f g):QV.c a b c d e f g:=Wa Tryz.func85 (x:=QV.h) (R0 h)
def Yk.h:Hn:=.q .o1 (.q (.cW (.seq [.op,.op,.op,.cY true 7 (RI.ops 7),.op])) .l)
def Yk.v (a:R2)(b:Int)(c:Hp)(d:aO):Prop:=bW (λe f=>d e f) λg=>If (b≥0) (bE a 8 c λi=>g (decide (b<((i.len:Nat):Int))) c) (g false c)
theorem Yk.o {a b c d}(e:Yk.v a b c d):Yk.c a b c d:=Wa Tryz.func89 (x:=Yk.h) (R0 e)
def YJ.h:Hn:=.q .o2 (.q (.q .o2 (.k (.q .o2 (.c (.q (.q (.cW (.seq [.op,.op,.op,.op,.cY false 3 (RI.ops 3)])) .aK) (.q (.cW (.held true [8] (.tk [0,1,2,3,4,5,6,7] (.all [(8,.tk [9,10,11,12,13] (.done))])))) (.q .o1 (.k (.q .o2 (.c (.q .o4 .l) (.q .o2 (.c (.q .o8 .l) .l)))))))) (.q .o2 (.c (.q .o5 .l) (.q .o2 (.c (.q .o3 .l) .l)))))))) .aM)
def YJ.v (a:R2)(b c d e:Int)(f:Hp)(g:Value->Hp->Prop):Prop:=aV #[.I b,.I c,.I d,.I e] 106 f λh i=>aQ h 0 i λj=>If (j==0) (aQ h 1 i λk=>bW (λl m=>If l (g (.nilIface) m) (dP m λn=>bU a λo=>aT n o 0 λp=>aS n h 1 λq=>aS n h 2 λr=>Z7.c p q r m λs t u=>If (t==0) (g (.iface 210 (.agg #[.I s])) u) (If (t==4) (aQ h 1 u λv=>bL (v+256) λw=>bL (w-1) λx=>Nz 256<|bL (x.tdiv 256) λy=>g (.iface 212 (.agg #[.I y])) u) (g (.nilIface) u)))) λz=>If (k<1) (z true i) (aQ h 1 i λaa=>z (decide (aa>16384)) i)) (If (j==1) (aQ h 3 i λab=>g (.iface 214 (.agg #[.I ab])) i) (If (j==2) (g (.iface 216 (.agg #[])) i) (g (.nilIface) i)))
theorem YJ.o {a b c d e f g}(h:YJ.v a b c d e f g):YJ.c a b c d e f g:=Wa Tryz.func90 (x:=YJ.h) (R0 h)
def ZC.h:Hn:=.q .o2 (.q .o7 (.q (.cW (.held true [] (.tk [0,1,2,3,4,5] (.all [(6,.take 7 (.all [(8,.take 9 (.done))]))])))) (.j8 [] (.q .o1 (.k (.q .o3 (.c (.q .o2 (.q (.q (.cW (.held true [6] (.tk [0,1,2,3,4,5] (.all [(6,.tk [7,8,9,10,11] (.done))])))) (.q .o2 (.c (.q (.cW (.held true [17] (.tk [0,1,2,3,4,5,6,7,8,9,10,11,12] (.all [(13,.tk [14,15,16] (.all [(17,.done)]))])))) .l) .l))) (.q (.cW (.held true [6] (.tk [0,1,2,3,4,5] (.all [(6,.tk [7,8,9,10,11] (.done))])))) (.q .o8 .l)))) (.q .o3 (.c (.q .o2 (.j8 [] (.q (.oq 12) (.c (.q .o9 (.q .o2 (.c (.q .o6 (.q .o5 .l)) .l))) .l)) (.q .o5 .l))) (.q .o3 (.c (.q .o2 (.q (.q (.o 11) (.q .o3 (.c (.q .o6 (.q .o5 .l)) .l))) (.q .o5 .l))) (.q .o3 (.c (.q .o2 (.q (.q .o5 (.q .o2 (.c (.q .o4 .l) .l))) (.q .o5 .l))) (.q .o3 (.c (.q .o2 (.q .o8 (.q .o4 (.q (.cW (.tail 9 (RI.ops 9) [.op])) (.q (.cW (.held true [20] (.tk [0,1,2,3,4,5,6,7,8,9,10,11,12,13,14,15] (.all [(16,.tk [17,18,19] (.all [(20,.done)]))])))) .l))))) (.q .o3 (.c (.q .o2 (.q .o9 (.q (.q .o2 (.c (.q .o4 .l) .l)) (.q (.o 11) .l)))) (.q .o3 (.c (.q .o2 (.q .o9 .l)) (.q .o3 (.c (.q .o2 (.j8 [] (.q (.cW (.held true [8] (.tk [0,1,2,3,4,5,6,7] (.all [(8,.tk [9,10,11,12,13] (.done))])))) (.q .o3 (.c .o6 .l))) (.q .o9 (.j8 [] (.q .o5 (.c (.cW (.held true [13] (.tk [0,1,2,3,4,5,6,7,8] (.all [(9,.all [(10,.take 11 (.take 12 (.all [(13,.done)])))])])))) .l)) (.q .o6 .l))))) (.q .o3 (.c (.q .o2 (.q .o8 (.q .gE (.q (.cW (.held true [5] (.take 0 (.take 1 (.take 2 (.take 4 (.all [(3,.all [(5,.done)])]))))))) (.q .o6 .l))))) (.q .o3 (.c (.q .o2 (.cW (.tail 10 (RI.ops 10) [.op]))) (.q .o3 (.c (.q .o2 (.q .o9 (.q .o6 .l))) .l)))))))))))))))))))))))) (.q .o3 .l))))
def ZC.v (a:R2)(b:Int)(c:Value)(d:Hp)(e:Value->Int->Int->Hp->Prop):Prop:=aV #[.I 0,.I 0] 108 d λf g=>bE a 8 g λi=>Ix i.a i.len b 3 λj=>dP g λk=>bU a λl=>aT k l 7 λm=>ZM.c a b g λn o=>And (k o) <| Ix m.a m.len n 1 λp=>fW p o λq=>And (k o) <| Jn [] (λr=>aR f 0 (.I 0) r λs=>aR f 1 (.I 0) s λt=>aQ f 0 t λu=>aQ f 1 t λv=>e (.nilIface) u v t) λw=>∃t52:Int,∃is:Bool,kL c 210 [.I t52] [.I 0] is ∧ (If is (aV #[.I 0] 210 o λx y=>eP x (.I t52) y λz=>dP z λaa=>bU (some j) λab=>aU aa ab 0 λac=>aS aa x 0 λad=>Ys.c ac ad z λae af ag=>If (af==0) (dP ag λah=>bU a λai=>aT ah ai 0 λaj=>aS ah x 0 λak=>Ix aj.a aj.len ak 3 λal=>aS ah al 0 λam=>aS ah x 0 λan=>Zg.c a ae am an ag λao ap aq ar=>And (ah ar) <| aR f 0 (.I ap) ar λau=>aR f 1 (.I aq) au λav=>aQ f 0 av λaw=>aQ f 1 av λax=>e (ao) aw ax av) (dP ag λay=>bU (some j) λaz=>aU ay az 0 λa0=>aS ay x 0 λa1=>Yp.c a0 a1 ag λa2 a3 a4=>aQ x 0 a4 λa5=>aR f 0 (.I 0) a4 λa6=>aR f 1 (.I 0) a6 λa7=>aQ f 0 a7 λa8=>aQ f 1 a7 λa9=>e (.iface 220 (.agg #[.I a5,.I a2])) a8 a9 a7)) (∃t99:Int,∃t991:Int,∃is1:Bool,kL c 220 [.I t99,.I t991] [.I 0,.I 0] is1 ∧
 (If is1 (aV #[.I 0,.I 0] 220 o λba bb=>aR ba 0 (.I t99) bb λbc=>aR ba 1 (.I t991) bc λbd=>Jn [] (λbe=>aQ ba 0 be λbf=>aQ ba 1 be λbg=>aR f 0 (.I 0) be λbh=>aR f 1 (.I 0) bh λbi=>aQ f 0 bi λbj=>aQ f 1 bi λbk=>e (.iface 224 (.agg #[.I bf,.I bg])) bj bk bi) λbl=>aQ ba 1 bd λbm=>bE a 0 bd λbo=>aQ ba 0 bd λbp=>Ix bo.a bo.len bp 3 λbq=>aQ bq 2 bd λbr=>If (bm==br) (aQ ba 0 bd λbs=>WD.c q bs bd λbt bu bv=>If (bu==0) (aQ ba 0 bv λbw=>Yz.c a b bw bt bv λbx=>aR f 0 (.I 0) bx λbz=>aR f 1 (.I 0) bz λb0=>aQ f 0 b0 λb1=>aQ f 1 b0 λb2=>e (.iface 223 (.agg #[])) b1 b2 b0) (bl bv)) (bl bd)) (∃t135:Int,∃t1351:Int,∃is2:Bool,kL c 224 [.I t135,.I t1351] [.I 0,.I 0] is2 ∧ (If is2 (aV #[.I 0,.I 0] 224 o λb3 b4=>aR b3 0 (.I t135) b4 λb5=>aR b3 1 (.I t1351) b5 λb6=>aQ b3 0 b6 λb7=>aQ b3 1 b6 λb8=>WF.c q b7 b8 b6 λb9 ca cb=>If (((b9.len:Nat):Int)>0) (aQ b3 0 cb λcc=>Yz.c a b cc b9 cb λcd=>aR f 0 (.I 0) cd λce=>aR f 1 (.I 0) ce λcf=>aQ f 0 cf λcg=>aQ f 1 cf λch=>e (.iface 223 (.agg #[])) cg ch cf) (aQ b3 0 cb λci=>aQ b3 1 cb λcj=>aR f 0 (.I 0) cb λck=>aR f 1 (.I 0) ck λcl=>aQ f 0 cl λcm=>aQ f 1 cl λcn=>
 e (.iface 226 (.agg #[.I ci,.I cj])) cm cn cl)) (∃t162:Int,∃t1621:Int,∃is3:Bool,kL c 226 [.I t162,.I t1621] [.I 0,.I 0] is3 ∧ (If is3 (aV #[.I 0,.I 0] 226 o λco cp=>aR co 0 (.I t162) cp λcq=>aR co 1 (.I t1621) cq λcr=>aQ co 0 cr λcs=>Yl.c q cs cr λct cu=>If (ct != 0) (aR f 0 (.I 0) cu λcv=>aR f 1 (.I ct) cv λcw=>aQ f 0 cw λcx=>aQ f 1 cw λcy=>e (.nilIface) cx cy cw) (aQ co 0 cu λcz=>aQ co 1 cu λc0=>aR f 0 (.I 0) cu λc1=>aR f 1 (.I 0) c1 λc2=>aQ f 0 c2 λc3=>aQ f 1 c2 λc4=>e (.iface 224 (.agg #[.I cz,.I c0])) c3 c4 c2)) (∃is4:Bool,kL c 223 [] [] is4 ∧ (If is4 (aV #[] 223 o λc5 c6=>bE (some j) 1 c6 λc8=>Ix c8.a c8.len 0 2 λc9=>aQ c9 0 c6 λda=>aX c9 1 c6 λdb=>aV #[.I 0,.slice none 0 0] 98 c6 λdc dd=>aR dc 0 (.I da) dd λde=>aR dc 1 (.slice db.a db.len db.cap) de λdf=>bU (some j) λdg=>aR dg 1 (.slice none 0 0) df λdh=>bF (some j) 0 dh λdj=>aQ dc 0 dh λdk=>aX dc 1 dh λdl=>fE dl 1 1 (dl.len:Nat) (dl.cap:Nat) λdm=>Yh.c dj dk dm dh λdn dp=>dP dp λdq=>aT dq dc 1 λdr=>Ix dr.a dr.len 0 1 λds=>fR dq bN ds λ(dt:Int)=>bU a λdu=>aT dq du 0 λdv=>aS dq dc 0 λdw=>Ix dv.a dv.len dw 3 λdx=>aS dq dx 0 λdy=>
 aS dq dc 0 λdz=>Zg.c a dt dy dz dp λd0 d1 d2 d3=>And (dq d3) <| aR f 0 (.I d1) d3 λd4=>aR f 1 (.I d2) d4 λd5=>aQ f 0 d5 λd6=>aQ f 1 d5 λd7=>e (d0) d6 d7 d5) (∃t217:Int,∃is5:Bool,kL c 212 [.I t217] [.I 0] is5 ∧ (If is5 (aV #[.I 0] 212 o λd8 d9=>eP d8 (.I t217) d9 λea=>aQ d8 0 ea λeb=>WW.c q eb 1 ea λec ed ee=>If (ed != 0) (aR f 0 (.I 0) ee λef=>aR f 1 (.I ed) ef λeg=>aQ f 0 eg λeh=>aQ f 1 eg λei=>e (.nilIface) eh ei eg) (bL (ec*256) λej=>aQ d8 0 ee λek=>bL (ek*256) λel=>Zg.c a ej el (-1) ee λem en eo ep=>aR f 0 (.I en) ep λeq=>aR f 1 (.I eo) eq λer=>aQ f 0 er λes=>aQ f 1 er λet=>e (em) es et er)) (∃t240:Int,∃is6:Bool,kL c 214 [.I t240] [.I 0] is6 ∧ (If is6 (aV #[.I 0] 214 o λeu ev=>eP eu (.I t240) ev λew=>aQ eu 0 ew λex=>ZI.c a b ex ew λey ez e0 e1=>aR f 0 (.I ez) e1 λe2=>aR f 1 (.I e0) e2 λe3=>aQ f 0 e3 λe4=>aQ f 1 e3 λe5=>e (ey) e4 e5 e3) (∃t250:Int,∃t2501:Int,∃is7:Bool,kL c 231 [.I t250,.I t2501] [.I 0,.I 0] is7 ∧ (If is7 (aV #[.I 0,.I 0] 231 o λe6 e7=>aR e6 0 (.I t250) e7 λe8=>aR e6 1 (.I t2501) e8 λe9=>Jn [] (λfa=>bE (some j) 1 fa λfc=>fE fc 2 1 (fc.len:Nat) (fc.cap:Nat) λfd=>bU (some j) λfe=>aR fe 1 (.slice fd.a fd.len fd.cap) fa λff=>Jn [] (λfg=>
 Xa.c a b fg λfh fi=>aR f 0 (.I 0) fi λfj=>aR f 1 (.I 0) fj λfk=>aQ f 0 fk λfl=>aQ f 1 fk λfm=>e (fh) fl fm fk) λfn=>bF (some j) 0 ff λfp=>Yt.c fp ff λfq fr=>If fq (dP fr λfs=>bU (some j) λft=>aT fs ft 1 λfu=>bU (some j) λfv=>aU fs fv 0 λfw=>Xb.c fw fr λfx fy=>And (fs fy) <| App fu 2 32 98 [.I 0,.slice none 0 0] fx fy λfz f0=>And (fs f0) <| bU (some j) λf1=>aR f1 1 (.slice fz.a fz.len fz.cap) f0 λf2=>fn f2) (fn fr)) λf3=>dP e9 λf4=>bU (some j) λf5=>aU f4 f5 0 λf6=>aS f4 e6 0 λf7=>aS f4 e6 1 λf8=>YV.c f6 f7 f8 e9 λf9 ga gb=>If (((f9.len:Nat):Int)>0) (aQ e6 0 gb λgc=>Yz.c a b gc f9 gb λgd=>f3 gd) (f3 gb)) (∃is8:Bool,kL c 234 [] [] is8 ∧ (If is8 (aV #[] 234 o λge gf=>bE (some j) 1 gf λgh=>Ix gh.a gh.len 0 2 λgi=>aQ gi 0 gf λgj=>aX gi 1 gf λgk=>aV #[.I 0,.slice none 0 0] 98 gf λgl gm=>aR gl 0 (.I gj) gm λgn=>aR gl 1 (.slice gk.a gk.len gk.cap) gn λgo=>bE (some j) 1 go λgq=>fE gq 2 1 (gq.len:Nat) (gq.cap:Nat) λgr=>Wr.c gr go λgs gt=>bU (some j) λgu=>aR gu 1 (.slice gs.a gs.len gs.cap) gt λgv=>dP gv λgw=>aS gw gl 0 λgx=>aT gw gl 1 λgy=>ZM.c a b gv λgz g0=>And (gw g0) <| ZF.c a gz gx gy g0 λg1=>
 Xa.c a b g1 λg2 g3=>aR f 0 (.I 0) g3 λg4=>aR f 1 (.I 0) g4 λg5=>aQ f 0 g5 λg6=>aQ f 1 g5 λg7=>e (g2) g6 g7 g5) (∃t332:Int,∃t3321:Int,∃is9:Bool,kL c 238 [.I t332,.I t3321] [.I 0,.I 0] is9 ∧ (If is9 (aV #[.I 0,.I 0] 238 o λg8 g9=>aR g8 0 (.I t332) g9 λha=>aR g8 1 (.I t3321) ha λhb=>bE a 7 hb λhd=>aQ g8 1 hb λhe=>Ix hd.a hd.len he 1 λhf=>fW hf hb λhg=>aQ g8 0 hb λhh=>WV.c hg hh hb λhi hj=>w hj) (∃is10:Bool,kL c 216 [] [] is10 ∧ (If is10 (aV #[] 216 o λhk hl=>bF (some j) 0 hl λhn=>XO.c hn hl λho hp=>bU (some j) λhq=>aR hq 1 (.slice ho.a ho.len ho.cap) hp λhr=>Xa.c a b hr λhs ht=>aR f 0 (.I 0) ht λhu=>aR f 1 (.I 0) hu λhv=>aQ f 0 hv λhw=>aQ f 1 hv λhx=>e (hs) hw hx hv) (w o))))))))))))))))))))))
theorem ZC.o {a b c d e}(f:ZC.v a b c d e):ZC.c a b c d e:=Wa Tryz.func91 (x:=ZC.h) (R0 f)
def XQ.h:Hn:=.q .o2 (.q (.q .o2 .aK) (.q .o7 .l))
def XQ.v (a:R2)(b:Int)(c:Hp)(d:aN):Prop:=aV #[.I b] 3 c λe f=>bM e f λg=>If (g<0) (d (-1) f) (bE a 7 f λi=>Wl.c i ⟨162,#[],#[.pointer (some e)]⟩ f λj k=>d j k)
theorem XQ.o {a b c d}(e:XQ.v a b c d):XQ.c a b c d:=Wa Tryz.func102 (x:=XQ.h) (R0 e)
def ZM.h:Hn:=.q .o1 (.q .o8 .l)
def ZM.v (a:R2)(b:Int)(c:Hp)(d:aN):Prop:=bE a 7 c λf=>Nz ((f.len:Nat):Int) <| d (b.tmod ((f.len:Nat):Int)) c
theorem ZM.o {a b c d}(e:ZM.v a b c d):ZM.c a b c d:=Wa Tryz.func120 (x:=ZM.h) (R0 e)
def Zg.h:Hn:=.q .o2 (.q (.cW (.held true [12] (.tk [0,1,2,3,4,5,6,7,8,9] (.all [(10,.take 11 (.all [(12,.done)]))])))) (.q .o4 .l))
def Zg.v (a:R2)(b c d:Int)(e:Hp)(f:Value->Int->Int->Hp->Prop):Prop:=aV #[.I 0,.I 0] 108 e λg h=>dP h λi=>bU a λj=>fR i .m (j.add 9) λ(k:Option Nat)=>XQ.c a b h λl m=>And (i m) <| jS .i64 (.ag 4) k b (b,c,d,l) m λn=>aR g 0 (.I b) n λo=>aR g 1 (.I 0) o λp=>aQ g 0 p λq=>aQ g 1 p λr=>f (.nilIface) q r p
theorem Zg.o {a b c d e f}(g:Zg.v a b c d e f):Zg.c a b c d e f:=Wa Tryz.func122 (x:=Zg.h) (R0 g)
def Yz.h:Hn:=.cW (.held true [20] (.tk [0,1,2,3,4,5,6,7,8,9,10,11,12,13,14,15] (.all [(16,.all [(17,.take 18 (.take 19 (.all [(20,.done)])))])])))
def Yz.v (a:R2)(b c:Int)(d:Sl)(e:Hp)(f:aP):Prop:=dP e λg=>bU a λh=>aT g h 8 λi=>bU a λj=>aT g j 8 λk=>Ix k.a k.len b 3 λl=>aT g l 1 λm=>aV #[.I c,.slice d.a d.len d.cap] 98 e λn o=>And (g o) <| App m 2 32 98 [.I 0,.slice none 0 0] ⟨some n,1,1⟩ o λp q=>And (g q) <| Ix i.a i.len b 3 λr=>aR r 1 (.slice p.a p.len p.cap) q λs=>f s
theorem Yz.o {a b c d e f}(g:Yz.v a b c d e f):Yz.c a b c d e f:=Wa Tryz.func125 (x:=Yz.h) (R0 g)
def ZI.h:Hn:=.q .o2 (.q (.o 12) (.q (.q .o2 (.c (.j8 [] (.q .o4 (.q .o2 (.c (.q (.o 16) (.q (.cW (.seq [.op,.op,.op,.cY true 2 [.op,.op],.op,.cY true 3 (RI.ops 3)])) (.c (.q .o3 .l) .l))) .l))) (.q .o3 .l)) .l)) (.q .o6 (.q (.q .o3 (.c (.q .o9 .l) .l)) (.q .o7 (.q .o8 .l))))))
def ZI.v (a:R2)(b c:Int)(d:Hp)(e:Value->Int->Int->Hp->Prop):Prop:=aV #[.I 0,.I 0] 108 d λf g=>bI a 9 g λi=>Lk .i64 (.ag 4) i c g λj=>aV #[.I 0,.I 0,.I 0,.I 0] 54 g λk l=>aR k 0 (.I ((j.getD (0,0,0,0)).1)) l λm=>aR k 1 (.I ((j.getD (0,0,0,0)).2.1)) m λn=>aR k 2 (.I ((j.getD (0,0,0,0)).2.2.1)) n λo=>aR k 3 (.I ((j.getD (0,0,0,0)).2.2.2)) o λp=>If (!j.isSome) (Jn [] (λq=>aR f 0 (.I 0) q λr=>aR f 1 (.I 8) r λs=>aQ f 0 s λt=>aQ f 1 s λu=>e (.nilIface) t u s) λv=>XQ.c a c p λw x=>If (w≥0) (bE a 7 x λz=>Ix z.a z.len w 1 λaa=>fW aa x λab=>Yr.c ab c x λac ad ae af=>bW (λag ah=>bW (λai aj=>If ai (aR f 0 (.I 0) aj λak=>aR f 1 (.I 9) ak λal=>aQ f 0 al λam=>aQ f 1 al λan=>e (.nilIface) am an al) (v aj)) λao=>If ag (ao (ad==c) ah) (ao false ah)) λap=>If (ae==0) (ap (decide (ac≥0)) af) (ap false af)) (v x)) (bI a 9 p λar=>nf .i64 (.ag 4) ar c p λau=>aQ k 2 au λav=>If (av<0) (Nz 256<|bL (c.tdiv 256) λaw=>aQ k 3 au λax=>aR f 0 (.I 0) au λay=>aR f 1 (.I 0) ay λaz=>aQ f 0 az λa0=>aQ f 1 az λa1=>e (.iface 238 (.agg #[.I aw,.I ax])) a0 a1 az) (aQ k 2 au λa2=>aV #[.I c] 3 au λa3 a4=>Yz.c a b a2 ⟨some a3,1,1⟩ a4 λa5=>aQ k 2 a5 λa6=>aR f 0 (.I 0) a5 λa7=>
 aR f 1 (.I 0) a7 λa8=>aQ f 0 a8 λa9=>aQ f 1 a8 λba=>e (.iface 231 (.agg #[.I a6,.I c])) a9 ba a8))
theorem ZI.o {a b c d e}(f:ZI.v a b c d e):ZI.c a b c d e:=Wa Tryz.func130 (x:=ZI.h) (R0 f)
def Xa.h:Hn:=.q .o1 (.q (.q .gE .aK) (.q .o3 .l))
def Xa.v (a:R2)(b:Int)(c:Hp)(d:Value->Hp->Prop):Prop:=bE a 8 c λf=>Ix f.a f.len b 3 λg=>aX g 1 c λh=>If (((h.len:Nat):Int)==0) (d (.nilIface) c) (d (.iface 234 (.agg #[])) c)
theorem Xa.o {a b c d}(e:Xa.v a b c d):Xa.c a b c d:=Wa Tryz.func134 (x:=Xa.h) (R0 e)
def ZF.h:Hn:=.q .o1 (.q .o7 (.q (.q .o4 (.k (.loop [(23,.I)] (.q .o1 (.q (.c .l .l) (.q (.k (.q .o3 (.q .o4 (.o 11)))) .o2)))))) (.j8 [] (.q (.oq 9) (.c (.q (.cW (.held true [] (.tk [0,1,2,3,4,5,6,7,8,9,10] (.all [(11,.tk [12,13,14,15,16] (.done))])))) (.q (.cW (.seq [.op,.op,.cY true 2 [.op,.op]])) (.c .l .l))) .l)) (.q .o3 (.k (.loop [(72,.I)] (.q .o1 (.q (.c .l .l) (.q (.k (.q .o5 (.q .o3 (.c (.cW (.tail 10 (RI.ops 10) [.op])) .l)))) .o2)))))))))
def ZF.v (a:R2)(b c:Int)(d:Sl)(e:Hp)(f:aP):Prop:=aV #[.I c,.slice d.a d.len d.cap] 98 e λg h=>bU a λi=>aX i 7 h λj=>Mk ((j.len:Nat):Int) ((j.len:Nat):Int) 24 27 [.slice none 0 0] h λk l=>aX g 1 l λm=>WU [bN] (λn=>n 0 l) λo (p:Int) q=>If (p<((m.len:Nat):Int)) (Ix m.a m.len p 1 λr=>bM r q λs=>XQ.c a s q λt u=>Ix k.a k.len t 1 λv=>ji v u λw=>aV #[.I s] 3 u λx y=>App w 1 8 3 [.I 0] ⟨some x,1,1⟩ y λz aa=>Ix k.a k.len t 1 λab=>eP ab (.slice z.a z.len z.cap) aa λac=>bL (p+1) λad=>o ad ac) (Jn [] (λae=>WU [bN] (λaf=>af 0 ae) λag (ah:Int) ai=>If (ah<((k.len:Nat):Int)) (Ix k.a k.len ah 1 λaj=>ji aj ai λak=>If (((ak.len:Nat):Int)>0) (bE a 7 ai λam=>Ix am.a am.len ah 1 λan=>fW an ai λao=>aQ g 0 ai λap=>WC.c ao ap ak ai λaq ar=>bL (ah+1) λau=>ag au ar) (bL (ah+1) λav=>ag av ai)) (f ai)) λaw=>Ix k.a k.len b 1 λax=>ji ax q λay=>aX g 1 q λaz=>If (((ay.len:Nat):Int)==((az.len:Nat):Int)) (dP q λa0=>bU a λa1=>aT a0 a1 7 λa2=>Ix a2.a a2.len b 1 λa3=>fR a0 .p a3 λ(a4:R2)=>aS a0 g 0 λa5=>aT a0 g 1 λa6=>WK.c a4 a5 a6 q λa7 a8 a9=>And (a0 a9) <| bW (λba bb=>If ba (f bb) (aw bb)) λbc=>If a7 (bc (a8==0) a9) (bc false a9)) (aw q))
theorem ZF.o {a b c d e f}(g:ZF.v a b c d e f):ZF.c a b c d e f:=Wa Tryz.func136 (x:=ZF.h) (R0 g)
def Zj.h:Hn:=.q .o1 (.q .o5 .l)
def Zj.v (a:R2)(b:Addr)(c:Hp)(d:aO):Prop:=bM b c λe=>Nz 256<|bL (e.tdiv 256) λf=>Zd.c a f c λg h=>d g h
theorem Zj.o {a b c d}(e:Zj.v a b c d):Zj.c a b c d:=Wa Tryz.func162 (x:=Zj.h) (R0 e)
def Z8.h:Hn:=.q .o2 .aM
def Z8.v (a:Int)(b:Hp)(c:ByteArray->Hp->Prop):Prop:=aV #[.I a] 210 b λd e=>c (ByteArray.mk #[116,97,107,101]) e
theorem Z8.o {a b c}(d:Z8.v a b c):Z8.c a b c:=Wa Tryz.func314 (x:=Z8.h) (R0 d)
def Z1.h:Hn:=.q .o2 .aM
def Z1.v (a:Int)(b:Hp)(c:ByteArray->Hp->Prop):Prop:=aV #[.I a] 212 b λd e=>c (ByteArray.mk #[108,97,114,103,101]) e
theorem Z1.o {a b c}(d:Z1.v a b c):Z1.c a b c:=Wa Tryz.func315 (x:=Z1.h) (R0 d)
def Qc.h:Hn:=.q .o2 .aM
def Qc.v (a:Int)(b:Hp)(c:ByteArray->Hp->Prop):Prop:=aV #[.I a] 214 b λd e=>c (ByteArray.mk #[102,105,110,100]) e
theorem Qc.o {a b c}(d:Qc.v a b c):Qc.c a b c:=Wa Tryz.func316 (x:=Qc.h) (R0 d)
def Z2.h:Hn:=.q .o2 .aM
def Z2.v (a:Hp)(b:ByteArray->Hp->Prop):Prop:=aV #[] 216 a λc d=>b (ByteArray.mk #[100,114,97,105,110]) d
theorem Z2.o {a b}(c:Z2.v a b):Z2.c a b:=Wa Tryz.func317 (x:=Z2.h) (R0 c)
def Zi.h:Hn:=.q .o2 .aM
def Zi.v (a b:Int)(c:Hp)(d:ByteArray->Hp->Prop):Prop:=aV #[.I a,.I b] 220 c λe f=>d (ByteArray.mk #[116,114,97,110,115,102,101,114]) f
theorem Zi.o {a b c d}(e:Zi.v a b c d):Zi.c a b c d:=Wa Tryz.func318 (x:=Zi.h) (R0 e)
def Qf.h:Hn:=.q .o2 .aM
def Qf.v (a:Hp)(b:ByteArray->Hp->Prop):Prop:=aV #[] 223 a λc d=>b (ByteArray.mk #[102,105,108,108]) d
theorem Qf.o {a b}(c:Qf.v a b):Qf.c a b:=Wa Tryz.func319 (x:=Qf.h) (R0 c)
def Zz.h:Hn:=.q .o2 .aM
def Zz.v (a b:Int)(c:Hp)(d:ByteArray->Hp->Prop):Prop:=aV #[.I a,.I b] 224 c λe f=>d (ByteArray.mk #[99,101,110,116,114,97,108]) f
theorem Zz.o {a b c d}(e:Zz.v a b c d):Zz.c a b c d:=Wa Tryz.func320 (x:=Zz.h) (R0 e)
def Qb.h:Hn:=.q .o2 .aM
def Qb.v (a b:Int)(c:Hp)(d:ByteArray->Hp->Prop):Prop:=aV #[.I a,.I b] 226 c λe f=>d (ByteArray.mk #[103,114,111,119]) f
theorem Qb.o {a b c d}(e:Qb.v a b c d):Qb.c a b c d:=Wa Tryz.func321 (x:=Qb.h) (R0 e)
def Qt.h:Hn:=.q .o2 .aM
def Qt.v (a b:Int)(c:Hp)(d:ByteArray->Hp->Prop):Prop:=aV #[.I a,.I b] 231 c λe f=>d (ByteArray.mk #[112,117,116]) f
theorem Qt.o {a b c d}(e:Qt.v a b c d):Qt.c a b c d:=Wa Tryz.func322 (x:=Qt.h) (R0 e)
def Qd.h:Hn:=.q .o2 .aM
def Qd.v (a:Hp)(b:ByteArray->Hp->Prop):Prop:=aV #[] 234 a λc d=>b (ByteArray.mk #[98,97,99,107]) d
theorem Qd.o {a b}(c:Qd.v a b):Qd.c a b:=Wa Tryz.func323 (x:=Qd.h) (R0 c)
def Qe.h:Hn:=.q .o2 .aM
def Qe.v (a b:Int)(c:Hp)(d:ByteArray->Hp->Prop):Prop:=aV #[.I a,.I b] 238 c λe f=>d (ByteArray.mk #[103,105,118,101]) f
theorem Qe.o {a b c d}(e:Qe.v a b c d):Qe.c a b c d:=Wa Tryz.func324 (x:=Qe.h) (R0 e)
end Go.Proofs
namespace Go.Ar
open Go Go.Vc Go.Proofs
def j9:Option Ph->Value
 | none=>.nilIface
 | some (.take k)=>.iface 210 (.agg #[.int .i64 (k:Int)])
 | some (.cN k w)=>.iface 220 (.agg #[.int .i64 (k:Int),.int .i64 (w:Int)])
 | some (.cP k w)=>.iface 224 (.agg #[.int .i64 (k:Int),.int .i64 (w:Int)])
 | some (.grow k w)=>.iface 226 (.agg #[.int .i64 (k:Int),.int .i64 (w:Int)])
 | some .fill=>.iface 223 (.agg #[])
 | some (.eN m)=>.iface 212 (.agg #[.int .i64 (m:Int)])
 | some (.find x)=>.iface 214 (.agg #[.int .i64 x])
 | some (.put k x)=>.iface 231 (.agg #[.int .i64 (k:Int),.int .i64 x])
 | some .back=>.iface 234 (.agg #[])
 | some (.dG s a)=>.iface 238 (.agg #[.int .i64 s,.int .i64 a])
 | some .drain=>.iface 216 (.agg #[])
theorem tQ (p:Option Ph):iM (j9 p):=by
 cases p with
 | none=>exact .inl rfl
 | some p=>cases p<;>exact .inr ⟨_,_,rfl⟩
theorem vY (p:Option Ph):kX (j9 p)=p.isNone:=by
 cases p with
 | none=>rfl
 | some p=>cases p<;>rfl
theorem TW (p:Option Ph):dJ (j9 p)=true:=by
 cases p with
 | none=>rfl
 | some p=>cases p<;>rfl
inductive iq where
 | hd|cH|sp|eT|cK|live
 | ar (k:Nat)
 | ca (k:Nat)
 | hn (k:Nat)
 deriving DecidableEq
structure dQ where
 c:gQ
 h:Sl
structure dS where
 p:Nat
 hs:Nat
 lm:Nat
 cH:Sl
 eT:Sl
 cK:Sl
 ys:List Lay
 ts:List dQ
def qI (L:dS)(c:Cf):List Value:=[.slice L.cH.a L.cH.len L.cH.cap,.int .i64 (c.bK:Int),.int .i64 (c.gS:Int),.int .i64 (c.threads:Int),.int .i64 (c.cT:Int),.int .i64 (c.room:Int),
 .pointer (some ⟨L.hs,0,none⟩),.slice L.eT.a L.eT.len L.eT.cap,.slice L.cK.a L.cK.len L.cK.cap,.map (some L.lm)]
def iF (x:dQ×Th):List Value:=[.pointer (some ⟨x.1.c.p,0,none⟩),.slice x.1.h.a x.1.h.len x.1.h.cap,j9 x.2.ph]
def gI (ts:List dQ)(bQ:List Th):List Value:=(ts.zip bQ).flatMap iF
theorem HN:∀{ts:List dQ} {bQ:List Th},ts.length=bQ.length->(gI ts bQ).length=bQ.length*3
 | [],[],_=>rfl
 | x::ts,h::bQ,e=>by
  have e1:gI (x::ts) (h::bQ)=iF (x,h)++gI ts bQ:=rfl;have a:(iF (x,h)).length=3:=rfl;rw[e1,zR,HN (by simpa using e),a,zV];omega
 | [],_::_,e=>by simp at e
 | _::_,[],e=>by simp at e
theorem BS:∀{ts:List dQ} {bQ:List Th} {i:Nat} {x:dQ} {h:Th},ts[i]?=some x->bQ[i]?=some h->∀{d:Nat},d<3->(gI ts bQ)[3*i+d]?=(iF (x,h))[d]?
 | [],_,_,_,_,h1,_,_,_=>by simp at h1
 | _::_,[],_,_,_,_,h2,_,_=>by simp at h2
 | y::ts,g::bQ,0,x,h,h1,h2,d,hd=>by
  have e1:gI (y::ts) (g::bQ)=iF (y,g)++gI ts bQ:=rfl;have a:(iF (y,g)).length=3:=rfl;simp at h1 h2;subst h1;subst h2;rw[e1,zQ O];congr 1;omega
 | y::ts,g::bQ,i+1,x,h,h1,h2,d,hd=>by
  have e1:gI (y::ts) (g::bQ)=iF (y,g)++gI ts bQ:=rfl;have a:(iF (y,g)).length=3:=rfl;rw[e1,zg O,a,show 3*(i+1)+d-3=3*i+d by omega];exact BS (by simpa using h1) (by simpa using h2) hd
theorem yQ:∀{ts:List dQ} {bQ:List Th} {i:Nat} {x:dQ} {h:Th},ts[i]?=some x->bQ[i]?=some h->∀{d:Nat} {v:Value} {x':dQ} {h':Th},d<3->iF (x',h')=(iF (x,h)).set d v →
 (gI ts bQ).set (3*i+d) v=gI (ts.set i x') (bQ.set i h')
 | [],_,_,_,_,h1,_,_,_,_,_,_,_=>by simp at h1
 | _::_,[],_,_,_,_,h2,_,_,_,_,_,_=>by simp at h2
 | y::ts,g::bQ,0,x,h,h1,h2,d,v,x',h',hd,e=>by
  have e1:gI (y::ts) (g::bQ)=iF (y,g)++gI ts bQ:=rfl;have e2:gI ((y::ts).set 0 x') ((g::bQ).set 0 h')=iF (x',h')++gI ts bQ:=rfl;have a:(iF (y,g)).length=3:=rfl;simp at h1 h2;subst h1;subst h2;rw[e1,e2,List.set_append_left _ _ O,e,show 3*0+d=d by omega]
 | y::ts,g::bQ,i+1,x,h,h1,h2,d,v,x',h',hd,e=>by
  have e1:gI (y::ts) (g::bQ)=iF (y,g)++gI ts bQ:=rfl;have e2:gI ((y::ts).set (i+1) x') ((g::bQ).set (i+1) h')=iF (y,g)++gI (ts.set i x') (bQ.set i h'):=rfl;have a:(iF (y,g)).length=3:=rfl;rw[e1,e2,vL _ _ O,a,show 3*(i+1)+d-3=3*i+d by omega];rw[yQ (by simpa using h1) (by simpa using h2) hd e]
def lX (y:Option Lay)(a:Option AR):Hp->Rg->Prop:=λU F=>match y,a with
 | some Y,some A=>dA U F Y A (cA A Y)
 | _,_=>True
def lW (x:Option dQ)(h:Option Th)(tb:List cD)(bud:Nat):Hp->Rg->Prop:=λU F=>match x,h with
 | some x,some h=>dY U F x.c tb bud h.ls
 | _,_=>True
def lq (x:Option dQ)(h:Option Th):Hp->Rg->Prop:=λU F=>match x,h with
 | some x,some h=>gC x.h h.bP U F
 | _,_=>True
def CH (H:Hw)(L:dS):iq->Hp->Rg->Prop
 | .hd=>gR L.p (qI L H.cf)
 | .cH=>cS L.cH 3 (fB H.tb)
 | .sp=>λU F=>cZ U F L.hs H.sp
 | .eT=>cS L.eT 1 (eB (L.ys.map (·.p)))
 | .cK=>bR L.cK 3 (gI L.ts H.bQ)
 | .live=>iT L.lm .i64 (.ag 4) H.live
 | .ar k=>lX L.ys[k]? H.bT[k]?
 | .ca t=>lW L.ts[t]? H.bQ[t]? H.tb H.cf.cT
 | .hn t=>lq L.ts[t]? H.bQ[t]?
theorem lX.loc (y:Option Lay)(a:Option AR):dH (lX y a):=by
 intro U σ' F G h hz hs;unfold lX at *;split at h
 ·exact dA.loc _ _ _ _ h hz hs
 ·trivial
theorem lW.loc (x:Option dQ)(h:Option Th)(tb:List cD)(bud:Nat):dH (lW x h tb bud):=by
 intro U σ' F G h hz hs;unfold lW at *;split at h
 ·exact dY.loc _ _ _ _ h hz hs
 ·trivial
theorem lq.loc (x:Option dQ)(h:Option Th):dH (lq x h):=by
 intro U σ' F G h hz hs;unfold lq at *;split at h
 ·exact gC.loc _ _ _ _ _ _ h hz hs
 ·trivial
theorem CH.loc {H:Hw}{L:dS}:∀i,dH (CH H L i)
 | .hd=>gR.loc _ _
 | .cH=>cS.loc _ _ _
 | .sp=>cZ.loc
 | .eT=>cS.loc _ _ _
 | .cK=>bR.loc _ _ _
 | .live=>iT.loc _ _ _ _
 | .ar k=>lX.loc _ _
 | .ca t=>lW.loc _ _ _ _
 | .hn t=>lq.loc _ _
structure HS (L:dS) (H:Hw):Prop where
 ys:L.ys.length=H.bT.length
 hs:∀Y∈L.ys,Y.hs=L.hs
 ts:L.ts.length=H.bQ.length
 a1:1<=H.bT.length
 a2:H.bT.length<=4
 t1:1<=H.bQ.length
 t2:H.bQ.length<=4
 tb:∀A∈H.bT,A.tb=H.tb
structure HH (U:Hp) (F:Rg) (L:dS) (H:Hw):Prop where
 s:HS L H
 sep:Sep (CH H L) U F
 g:Gl U
 gd:Gd U
 o:jk F
 o2:¬F 1
variable {U:Hp}{F:Rg}{L:dS}{H:Hw}{t k:Nat}
theorem HH.aF (h:HH U F L H){σ':Hp}(e:aG U σ'):HH σ' F L H:=⟨h.s,(Sep.loc CH.loc).aF h.sep e,h.g.aF e,h.gd.aF e,h.o,h.o2⟩
theorem HH.bV (h:HH U F L H){σ':Hp}{T:Rg}(e:Ext T U σ')(hT:∀b,b<U.size->F b->¬T b)(hg:jk T)(hg2:¬T 1):HH σ' F L H:=⟨h.s,(Sep.loc CH.loc).bV h.sep e hT,h.g.bV e hg,h.gd.bV e hg2,h.o,h.o2⟩
theorem Cq {U:Hp}(g:Gd U):1<U.size:=g.lt
theorem HH.mono (h:HH U F L H){G:Rg}(hs:∀b,b<U.size->F b->G b)(o:jk G)(o2:¬G 1):HH U G L H:=⟨h.s,(Sep.loc CH.loc).mono h.sep hs,h.g,h.gd,o,o2⟩
theorem HH.oG (h:HH U F L H):jk (Grow F U):=h.o.grow h.g
theorem HH.qB (h:HH U F L H):¬Grow F U 1:=λa=>by
 rcases a with a|a
 ·exact h.o2 a
 ·have:=Cq h.gd;omega
theorem HH.sub (h:HH U F L H){G:Rg}(hs:∀b,b<U.size->F b->G b)(hg:∀b,G b->F b\/U.size<=b):HH U G L H:=
 h.mono hs (h.oG.sub hg) λa=>h.qB (hg _ a)
theorem HH.wx {v v':Hp}{G T:Rg}{L0:dS}{H0:Hw}(h0:HH U F L0 H0)(h:HH v G L H)(e:Ext T v v')(hT:∀b,T b->U.size<=b)(hG:∀b,b<v.size->G b->¬T b):HH v' G L H:=
 h.bV e hG (h0.oG.sub λb a=>.inr (hT b a)) λa=>h0.qB (.inr (hT _ a))
theorem HH.grown {σ':Hp}{R:Rg}{L':dS}{H':Hw}(h:HH U F L H)(h':HH σ' R L' H')(hr:∀b,b<σ'.size->R b->Grow F U b):HH σ' (Grow F U) L' H':=h'.mono hr h.oG h.qB
theorem HH.cut (h:HH U F L H):HH U (Cut F U) L H:=h.sub (λb a d=>⟨d,a⟩) λb a=>.inl a.1
theorem HH.ma (h:HH U F L H)(i:iq):∃G:Rg,(∀b,G b->F b)/\CH H L i U G/\(∀j,j≠i->∃D:Rg,(∀b,D b->F b)/\(∀b,D b->¬G b)/\CH H L j U D) ∧
 ∀(σ':Hp) (H':Hw) (L':dS) (G':Rg),HS L' H'->(∀j,j≠i->CH H' L' j=CH H L j)->Ext G U σ'->(∀b,G' b->Grow G U b)->CH H' L' i σ' G' →
  Ext F U σ'/\HH σ' (λb=>F b/\b<U.size/\¬G b\/G' b) L' H':=by
 obtain⟨G,p,w,hd,m⟩:=h.sep.jx CH.loc i;refine⟨G,p,w,hd,λσ' H' L' G' u x e s y=>?_⟩;have r:=e.sub p;have d:∀b,(F b/\b<U.size/\¬G b\/G' b)->Grow F U b:=λb a=>by
  rcases a with a|a
  ·exact .inl a.1
  ·exact(s b a).imp (p b) id
 refine⟨r,u,m σ' (CH H' L') G' x e s y (CH.loc _),h.g.bV r h.o,h.gd.bV r h.o2,λb a=>(h.o.grow h.g) b (d b a),λa=>?_⟩;rcases d _ a with h1|h1
 ·exact h.o2 h1
 ·have:=Cq h.gd;omega
theorem _root_.Go.Vc.Sep.tC {L:Type}{C:L->Hp->Rg->Prop}{U:Hp}{F:Rg}(hC:∀i,dH (C i))(h:Sep C U F)(i j:L)(hij:i≠j)(N:Rg)(hN:∀b,b<U.size->F b->¬N b):∃G D:Rg,(∀b,G b->F b)/\(∀b,D b->F b)/\(∀b,G b->¬D b)/\C i U G/\C j U D/\(∀m,m≠i->m≠j->∃E:Rg,(∀b,E b->F b)/\(∀b,E b->¬(G b\/D b))/\C m U E) ∧
 ∀(σ':Hp) (C':L->Hp->Rg->Prop) (G' D':Rg),(∀k,k≠i->k≠j->C' k=C k)->Ext (λb=>G b\/D b) U σ'->(∀b,G' b->(G b\/D b)\/N b)->(∀b,D' b->(G b\/D b)\/N b)->(∀b,G' b->¬D' b)->C' i σ' G'->C' j σ' D'->(∀k,dH (C' k)) →
 Sep C' σ' λb=>F b/\b<U.size/\¬(G b\/D b)\/G' b\/D' b:=by
 obtain⟨ρ,h⟩:=h
 let G:Rg:=λb=>F b/\ρ b=i
 let D:Rg:=λb=>F b/\ρ b=j
 refine⟨G,D,λb a=>a.1,λb a=>a.1,λb w x=>hij (w.2.symm.trans x.2),h i,h j,λm w x=>⟨λb=>F b/\ρ b=m,λb a=>a.1,λb a d=>d.elim (λu=>w (a.2.symm.trans u.2)) λu=>x (a.2.symm.trans u.2),h m⟩,λσ' C' G' D' A e J H hd z B y=>?_⟩
 open Classical in
 refine⟨λb=>if G' b then i else if D' b then j else ρ b,λk=>?_⟩
 by_cases hki:k=i
 ·subst hki;exact(y _).mono z λb _ a=>⟨.inr (.inl a),zB a⟩
 by_cases hkj:k=j
 ·subst hkj;exact(y _).mono B λb _ a=>⟨.inr (.inr a),by show(if G' b then i else if D' b then k else ρ b)=k;rw[zA λd=>hd b d a,zB a]⟩
 ·rw[A k hki hkj];refine hC k _ _ _ _ (h k) e.1 λb a g=>?_;have s:¬(G b\/D b):=by
   rintro(d|d)
   ·exact hki (g.2.symm.trans d.2)
   ·exact hkj (g.2.symm.trans d.2)
  have p:¬G' b:=λd=>(J b d).elim s (hN b a g.1);have r:¬D' b:=λd=>(H b d).elim s (hN b a g.1);exact⟨⟨.inl ⟨g.1,a,s⟩,by show(if G' b then i else if D' b then j else ρ b)=k;rw[zA p,zA r];exact g.2⟩,e.2 b a s⟩
theorem HH.qe (h:HH U F L H)(i j:iq)(hij:i≠j)(N:Rg)(hN:∀b,b<U.size->F b->¬N b)(oN:jk N)(oN2:¬N 1):∃G D:Rg,(∀b,G b->F b)/\(∀b,D b->F b)/\(∀b,G b->¬D b)/\CH H L i U G/\CH H L j U D/\(∀m,m≠i->m≠j->∃E:Rg,(∀b,E b->F b)/\(∀b,E b->¬(G b\/D b))/\CH H L m U E) ∧
 ∀(σ':Hp) (H':Hw) (L':dS) (G' D':Rg),HS L' H'->(∀m,m≠i->m≠j->CH H' L' m=CH H L m)->Ext (λb=>G b\/D b) U σ'->(∀b,G' b->(G b\/D b)\/N b)->(∀b,D' b->(G b\/D b)\/N b)->(∀b,G' b->¬D' b)->CH H' L' i σ' G'->CH H' L' j σ' D' →
  Ext F U σ'/\HH σ' (λb=>F b/\b<U.size/\¬(G b\/D b)\/G' b\/D' b) L' H':=by
 obtain⟨G,D,s,u,hd,B,J,d,r⟩:=h.sep.tC CH.loc i j hij N hN;refine⟨G,D,s,u,hd,B,J,d,λσ' H' L' G' D' P M e A z x C K=>?_⟩;have w:Ext F U σ':=e.sub λb a=>a.elim (s b) (u b);have p:∀b,(F b/\b<U.size/\¬(G b\/D b)\/G' b\/D' b)->F b\/N b:=λb a=>by
  rcases a with a|a|a
  ·exact .inl a.1
  ·exact(A b a).imp (λy=>y.elim (s b) (u b)) id
  ·exact(z b a).imp (λy=>y.elim (s b) (u b)) id
 refine⟨w,P,r σ' (CH H' L') G' D' M e A z x C K CH.loc,h.g.bV w h.o,h.gd.bV w h.o2,λb a=>(p b a).elim (h.o b) (oN b),λa=>?_⟩;exact(p _ a).elim h.o2 oN2
theorem HH.mf (h:HH U F L H):jk (λb=>U.size<=b)/\¬(U.size<=1):=⟨h.oG.sub λb a=>.inr a,λa=>h.qB (.inr a)⟩
theorem HH.nI (h:HH U F L H)(i j:iq)(hij:i≠j):∃G D:Rg,(∀b,G b->F b)/\(∀b,D b->F b)/\(∀b,G b->¬D b)/\CH H L i U G/\CH H L j U D/\(∀m,m≠i->m≠j->∃E:Rg,(∀b,E b->F b)/\(∀b,E b->¬(G b\/D b))/\CH H L m U E) ∧
 ∀(σ':Hp) (H':Hw) (L':dS) (G' D':Rg),HS L' H'->(∀m,m≠i->m≠j->CH H' L' m=CH H L m)->Ext (λb=>G b\/D b) U σ'->(∀b,G' b->(G b\/D b)\/U.size<=b)->(∀b,D' b->(G b\/D b)\/U.size<=b)->(∀b,G' b->¬D' b)->CH H' L' i σ' G'->CH H' L' j σ' D' →
  Ext F U σ'/\HH σ' (λb=>F b/\b<U.size/\¬(G b\/D b)\/G' b\/D' b) L' H':=
 h.qe i j hij _ (λb a _=>O) h.mf.1 h.mf.2
theorem HH.hd (h:HH U F L H):bY U L.p (qI L H.cf):=by obtain⟨G,b,a⟩:=h.sep.get .hd;exact a.2
theorem HH.iW (h:HH U F L H):cS L.cH 3 (fB H.tb) U F:=by
 obtain⟨G,d,a⟩:=h.sep.get .cH;exact aH.mono a λb _ a=>d b a
theorem HH.oy (h:HH U F L H):L.cH.len=H.tb.length:=by
 have:=h.iW.1;rw[V7]at this;omega
theorem HH.nO (h:HH U F L H):cS L.eT 1 (eB (L.ys.map (·.p))) U F:=by
 obtain⟨G,d,a⟩:=h.sep.get .eT;exact aH.mono a λb _ a=>d b a
theorem HH.jZ (h:HH U F L H):L.eT.len=H.bT.length:=by
 have:=h.nO.1;have:=h.s.ys;simp[eB]at *;omega
theorem HH.ky (h:HH U F L H):cS L.cK 3 (gI L.ts H.bQ) U F:=by
 obtain⟨G,d,a⟩:=h.sep.get .cK;exact aH.mono (bR.fM a) λb _ a=>d b a
theorem HH.jb (h:HH U F L H):L.cK.len=H.bQ.length:=by
 have:=h.ky.1;rw[HN h.s.ts]at this;omega
theorem HH.jd (h:HH U F L H):dD U L.lm .i64 (.ag 4) H.live:=by obtain⟨G,b,a⟩:=h.sep.get .live;exact a.2
theorem HH.By (h:HH U F L H):cZ U F L.hs H.sp:=by
 obtain⟨G,d,a⟩:=h.sep.get .sp;exact dH.mono cZ.loc a λb _ a=>d b a
theorem HH.ar (h:HH U F L H){A:AR}(hk:H.bT[k]?=some A):∃Y,L.ys[k]?=some Y/\Y.hs=L.hs/\dA U F Y A (cA A Y):=by
 have g:=(cV.1 hk).1;have d:L.ys[k]?=some (L.ys[k]'(by rw[h.s.ys];exact g)):=cQ _;obtain⟨G,e,a⟩:=h.sep.get (.ar k);simp only[CH,hk,d,lX]at a;exact⟨_,d,h.s.hs _ (zE d),a.mono λb _ a=>e b a⟩
theorem HH.rA (h:HH U F L H){Y:Lay}(hy:L.ys[k]?=some Y){K:Option Addr->Prop}(hK:K (some ⟨Y.p,0,none⟩)):Ix L.eT.a L.eT.len (k:Int) 1 λa=>fW a U K:=
 C1 h.nO (by simp[hy]) hK
theorem HH.th (h:HH U F L H)(ht:t<H.bQ.length):∃x g,L.ts[t]?=some x/\H.bQ[t]?=some g:=⟨L.ts[t]'(by rw[h.s.ts];exact ht),H.bQ[t],cQ _,cQ _⟩
theorem UR {s:Sl}{ts:List dQ}{bQ:List Th}(h:cS s 3 (gI ts bQ) U F){x:dQ}{g:Th}(hx:ts[t]?=some x)(hg:bQ[t]?=some g){d:Nat}(hd:d<3){v:Value}(hv:(iF (x,g))[d]?=some v):∃b o,s.a=some ⟨b,o,none⟩/\cell U ⟨b,o+(3*t+d),none⟩=some v:=
 h.cell ((BS hx hg hd).trans hv)
theorem A4 {s:Sl}{ts:List dQ}{bQ:List Th}(hs:cS s 3 (gI ts bQ) U F)(hl:ts.length=bQ.length){x:dQ}{g:Th}(hx:ts[t]?=some x)(hg:bQ[t]?=some g){d:Nat}(hd:d<3){v:Value}(hv:(iF (x,g))[d]?=some v){K:Addr->Prop}
 (hK:∀b o,s.a=some ⟨b,o,none⟩->cell U (Addr.add ⟨b,o+3*t,none⟩ d)=some v->K ⟨b,o+3*t,none⟩):Ix s.a s.len (t:Int) 3 K:=by
 have m:=(cV.1 hg).1;have e:=hs.1;rw[HN hl]at e;obtain⟨b,o,i,j⟩:=UR hs hx hg hd hv;rw[i];refine ix O O ?_;rw[add_lit,show o+(t:Int).toNat*3=o+3*t by omega];exact hK b o i (by rw[add_lit,show o+3*t+d=o+(3*t+d) by omega];exact j)
theorem HH.EE (h:HH U F L H){x:dQ}{g:Th}(hx:L.ts[t]?=some x)(hg:H.bQ[t]?=some g){d:Nat}(hd:d<3){v:Value}(hv:(iF (x,g))[d]?=some v){K:Addr->Prop}
 (hK:∀b o,cell U (Addr.add ⟨b,o+3*t,none⟩ d)=some v->K ⟨b,o+3*t,none⟩):Ix L.cK.a L.cK.len (t:Int) 3 K:=
 A4 h.ky h.s.ts hx hg hd hv λb o _ e=>hK b o e
theorem HH.tS (h:HH U F L H){x:dQ}{g:Th}(hx:L.ts[t]?=some x)(hg:H.bQ[t]?=some g){K:Sl->Prop}(hK:K x.h):Ix L.cK.a L.cK.len (t:Int) 3 λa=>ji (a.add 1) U K:=
 h.EE hx hg (d:=1) O rfl λb o e=>nR e hK
theorem HH.tR (h:HH U F L H){x:dQ}{g:Th}(hx:L.ts[t]?=some x)(hg:H.bQ[t]?=some g){K:Value->Prop}(hK:K (j9 g.ph)):Ix L.cK.a L.cK.len (t:Int) 3 λa=>xg (a.add 2) U K:=
 h.EE hx hg (d:=2) O rfl λb o e=>⟨_,e,hK⟩
theorem HS.eC (h:HS L H){bQ:List Th}{ts:List dQ}(e:ts.length=bQ.length)(e2:bQ.length=H.bQ.length):HS {L with ts:=ts} {H with bQ:=bQ}:=⟨h.ys,h.hs,e,h.a1,h.a2,by rw[e2];exact h.t1,by rw[e2];exact h.t2,h.tb⟩
theorem HS.cG (h:HS L H){A:AR}{sp:Sp}(e:A.tb=H.tb):HS L {H.cG k A with sp:=sp}:=⟨by simp[Hw.cG,h.ys],h.hs,h.ts,by simp[Hw.cG,h.a1],by simp[Hw.cG,h.a2],h.t1,h.t2,λB a=>by
 rcases wH a with h1|h1
 ·exact h.tb B h1
 ·subst h1;exact e⟩
theorem Ii {A:AR}:∀j,j≠iq.ar k->CH (H.cG k A) L j=CH H L j:=by
 intro j hj;cases j<;>try rfl
 rename_i m;have a:m≠k:=λe=>hj (by rw[e]);simp only[CH,Hw.cG,zd (Ne.symm a)]
theorem FG {sp:Sp}:∀j,j≠iq.sp->CH {H with sp:=sp} L j=CH H L j:=by
 intro j hj;cases j<;>first|rfl|exact absurd rfl hj
theorem O5 {l:List (Int×Bk)}:∀j,j≠iq.live->CH {H with live:=l} L j=CH H L j:=by
 intro j hj;cases j<;>first|rfl|exact absurd rfl hj
theorem HH.xe (h:HH U F L H){A:AR}(hk:H.bT[k]?=some A):∃(Y:Lay) (G:Rg),L.ys[k]?=some Y/\Y.hs=L.hs/\(∀b,G b->F b)/\dA U G Y A (cA A Y)/\∀(σ':Hp) (A':AR) (G':Rg),A'.tb=A.tb->Ext G U σ'->(∀b,G' b->Grow G U b)->dA σ' G' Y A' (cA A' Y) →
 Ext F U σ'/\HH σ' (λb=>F b/\b<U.size/\¬G b\/G' b) L (H.cG k A'):=by
 have g:=(cV.1 hk).1;have a:L.ys[k]?=some (L.ys[k]'(by rw[h.s.ys];exact g)):=cQ _;generalize (L.ys[k]'(by rw[h.s.ys];exact g))=Y at a;obtain⟨G,m,j,_,d⟩:=h.ma (.ar k);simp only[CH,hk,a,lX]at j;refine⟨Y,G,a,h.s.hs _ (zE a),m,j,λσ' A' G' i e p r=>?_⟩;refine d σ' (H.cG k A') L G' (h.s.cG (sp:=H.sp) (i.trans (h.s.tb A (zE hk)))) Ii e p ?_;simp only[CH,Hw.cG,a,zK g,lX];exact r
theorem HH.lQ (h:HH U F L H){A:AR}(hk:H.bT[k]?=some A):∃(Y:Lay) (G D:Rg),L.ys[k]?=some Y/\Y.hs=L.hs/\W2 U G D Y A (cA A Y) H.sp/\∀(σ':Hp) (A':AR) (sp':Sp) (G' D':Rg),A'.tb=A.tb->Ext (gN G D) U σ'->Fits U G D G' D'->W2 σ' G' D' Y A' (cA A' Y) sp' →
 Ext F U σ'/\HH σ' (Grow F U) L {H.cG k A' with sp:=sp'}:=by
 have J:=(cV.1 hk).1;have i:L.ys[k]?=some (L.ys[k]'(by rw[h.s.ys];exact J)):=cQ _;generalize (L.ys[k]'(by rw[h.s.ys];exact J))=Y at i;obtain⟨G,D,E,C,hd,N,z,_,w⟩:=h.nI (.ar k) .sp (by intro e;cases e);simp only[CH,hk,i,lX]at N;have z:cZ U D L.hs H.sp:=z;have j:=h.s.hs _ (zE i);refine⟨Y,G,D,i,j,⟨N,by rw[j];exact z,hd,h.g,h.o.sub E,h.o.sub C⟩,λσ' A' sp' G' D' K e M B=>?_⟩;have r:∀b,G' b->(G b\/D b)\/U.size<=b:=λb x=>(M.1 b x).imp .inl id;have u:∀b,D' b->(G b\/D b)\/U.size<=b:=λb x=>.inl (.inr (M.2 b x));have S:∀m,m≠iq.ar k->m≠iq.sp->CH {H.cG k A' with sp:=sp'} L m=CH H L m:=λm y P=>
  (Ii (H:={H with sp:=sp'}) (L:=L) (A:=A') m y).trans (FG m P)
 have R:CH {H.cG k A' with sp:=sp'} L (.ar k) σ' G':=by
  simp only[CH,Hw.cG,i,zK J,lX];exact B.a
 have Q:CH {H.cG k A' with sp:=sp'} L .sp σ' D':=by
  show cZ σ' D' L.hs sp';rw[←j];exact B.s
 obtain⟨e1,y⟩:=w σ' {H.cG k A' with sp:=sp'} L G' D' (h.s.cG (K.trans (h.s.tb A (zE hk)))) S e r u B.d R Q;refine⟨e1,h.grown y λb x p=>?_⟩;rcases p with p|p|p
 ·exact .inl p.1
 ·exact(r b p).imp (λi=>i.elim (E b) (C b)) id
 ·exact(u b p).imp (λi=>i.elim (E b) (C b)) id
theorem HH.wZ (h:HH U F L H):∃G:Rg,(∀b,G b->F b)/\cZ U G L.hs H.sp/\jk G/\∀(σ':Hp) (sp':Sp),Ext G U σ'->cZ σ' (Grow G U) L.hs sp'->Ext F U σ'/\HH σ' (Grow F U) L {H with sp:=sp'}:=by
 obtain⟨G,g,j,_,a⟩:=h.ma .sp;refine⟨G,g,j,h.o.sub g,λσ' sp' e hs=>?_⟩;obtain⟨e1,m⟩:=a σ' {H with sp:=sp'} L (Grow G U) ⟨h.s.ys,h.s.hs,h.s.ts,h.s.a1,h.s.a2,h.s.t1,h.s.t2,h.s.tb⟩ FG e (λb i=>i) hs;exact⟨e1,h.grown m λb i d=>by
  rcases d with d|d
  ·exact .inl d.1
  ·exact d.imp (g b) id⟩
theorem HH.sA (h:HH U F L H):F L.lm/\∀(σ':Hp) (l:List (Int×Bk)),QT U σ' L.lm->dD σ' L.lm .i64 (.ag 4) l->Ext F U σ'/\HH σ' F L {H with live:=l}:=by
 obtain⟨G,i,a,_,d⟩:=h.ma .live;have a:iT L.lm .i64 (.ag 4) H.live U G:=a;refine⟨i _ a.1,λσ' l m j=>?_⟩;obtain⟨e1,p⟩:=d σ' {H with live:=l} L G ⟨h.s.ys,h.s.hs,h.s.ts,h.s.a1,h.s.a2,h.s.t1,h.s.t2,h.s.tb⟩ O5 (m.ext.sub λb g=>by rw[g];exact a.1) (λb g=>.inl g) ⟨a.1,j⟩;exact⟨e1,p.mono (λb _ e=>by
  rcases e with e|e
  ·exact e.1
  ·exact i b e) h.o h.o2⟩
theorem HH.qa (h:HH U F L H){x:dQ}{g:Th}(hx:L.ts[t]?=some x)(hg:H.bQ[t]?=some g):∃G:Rg,(∀b,G b->F b)/\dY U G x.c H.tb H.cf.cT g.ls/\∀(σ':Hp) (ls:List Li) (Y':gQ) (G':Rg),Y'.p=x.c.p->Ext G U σ'->(∀b,G' b->Grow G U b)->dY σ' G' Y' H.tb H.cf.cT ls →
 Ext F U σ'/\HH σ' (λb=>F b/\b<U.size/\¬G b\/G' b) {L with ts:=L.ts.set t {x with c:=Y'}} {H with bQ:=H.bQ.set t {g with ls:=ls}}:=by
 have i:=(cV.1 hx).1;have a:=(cV.1 hg).1;obtain⟨G,A,z,_,r⟩:=h.ma (.ca t);simp only[CH,hx,hg,lW]at z;refine⟨G,A,z,λσ' ls Y' G' hp e w D=>?_⟩;have y:gI (L.ts.set t {x with c:=Y'}) (H.bQ.set t {g with ls:=ls})=gI L.ts H.bQ:=by
  have C:(gI L.ts H.bQ).set (3*t+0) (.pointer (some ⟨x.c.p,0,none⟩))=gI L.ts H.bQ:=QG (BS hx hg O);rw[←C];exact(yQ hx hg (d:=0) O (by simp[iF,hp])).symm
 refine r σ' {H with bQ:=H.bQ.set t {g with ls:=ls}} {L with ts:=L.ts.set t {x with c:=Y'}} G' (h.s.eC (by simp[h.s.ts]) aA) (λj B=>?_) e w ?_
 ·cases j<;>try rfl
  ·simp only[CH,y]
  ·rename_i m;have u:m≠t:=λe=>B (by rw[e]);simp only[CH,zd (Ne.symm u)]
  ·rename_i m;by_cases u:m=t
   ·subst u;simp only[CH,zK i,zK a,hx,hg];rfl
   ·simp only[CH,zd (Ne.symm u)]
 ·simp only[CH,zK i,zK a,lW];exact D
theorem HH.sD (h:HH U F L H){x:dQ}{g:Th}(hx:L.ts[t]?=some x)(hg:H.bQ[t]?=some g)(N:Rg)(hN:∀b,b<U.size->F b->¬N b)(oN:jk N)(oN2:¬N 1):∃G D:Rg,(∀b,G b->F b)/\(∀b,D b->F b)/\(∀b,G b->¬D b)/\gC x.h g.bP U G/\bR L.cK 3 (gI L.ts H.bQ) U D/\(∃E:Rg,(∀b,E b->¬G b)/\(∀b,E b->¬D b)/\gR L.p (qI L H.cf) U E) ∧
 ∀(σ':Hp) (s:Sl) (bs:List Bt) (G' D':Rg),Ext (λb=>G b\/D b) U σ'->(∀b,G' b->(G b\/D b)\/N b)->(∀b,D' b->(G b\/D b)\/N b)->(∀b,G' b->¬D' b)->gC s bs σ' G'->bR L.cK 3 ((gI L.ts H.bQ).set (3*t+1) (.slice s.a s.len s.cap)) σ' D' →
  Ext F U σ'/\HH σ' (λb=>F b/\b<U.size/\¬(G b\/D b)\/G' b\/D' b) {L with ts:=L.ts.set t {x with h:=s}} {H with bQ:=H.bQ.set t {g with bP:=bs}}:=by
 have j:=(cV.1 hx).1;have i:=(cV.1 hg).1;obtain⟨G,D,V,S,hd,M,z,r,u⟩:=h.qe (.hn t) .cK (by intro e;cases e) N hN oN oN2;simp only[CH,hx,hg,lq]at M;have z:bR L.cK 3 (gI L.ts H.bQ) U D:=z;obtain⟨E,_,P,A⟩:=r .hd (by intro e;cases e) (by intro e;cases e);refine⟨G,D,V,S,hd,M,z,⟨E,λb B hx=>P b B (.inl hx),λb B hx=>P b B (.inr hx),A⟩,λσ' s bs G' D' e J y C W X=>?_⟩;have K:gI (L.ts.set t {x with h:=s}) (H.bQ.set t {g with bP:=bs})=(gI L.ts H.bQ).set (3*t+1) (.slice s.a s.len s.cap):=(yQ hx hg (d:=1) O (by simp[iF])).symm;refine u σ' {H with bQ:=H.bQ.set t {g with bP:=bs}} {L with ts:=L.ts.set t {x with h:=s}} G' D' (h.s.eC (by simp[h.s.ts]) aA) (λm Q R=>?_) e J y C ?_ ?_
 ·cases m<;>first|rfl|exact absurd rfl R|skip
  ·rename_i m;by_cases w:m=t
   ·subst w;simp only[CH,zK j,zK i,hx,hg];rfl
   ·simp only[CH,zd (Ne.symm w)]
  ·rename_i m;have w:m≠t:=λe=>Q (by rw[e]);simp only[CH,zd (Ne.symm w)]
 ·simp only[CH,zK j,zK i,lq];exact W
 ·simp only[CH,K];exact X
theorem HH.sJ (h:HH U F L H){x:dQ}{g:Th}(hx:L.ts[t]?=some x)(hg:H.bQ[t]?=some g)(p:Option Ph){K:aP}(hK:∀σ',Ext F U σ'->HH σ' F L {H with bQ:=H.bQ.set t {g with ph:=p}}->K σ') :
 Ix L.cK.a L.cK.len (t:Int) 3 λa=>And (iM (j9 p)) (eP (a.add 2) (j9 p) U K):=by
 have M:=(cV.1 hx).1;have i:=(cV.1 hg).1;have A:=h.jb;obtain⟨G,B,w,_,u⟩:=h.ma .cK;have w:bR L.cK 3 (gI L.ts H.bQ) U G:=w;have E:=HN h.s.ts;obtain⟨b,y⟩:∃b,L.cK.a=some ⟨b,0,none⟩:=by
  rcases w.2 with⟨h0,_⟩|⟨b,_,_,ha,_⟩
  ·omega
  ·exact⟨b,ha⟩
 rw[y];refine ix O O ⟨tQ p,?_⟩;refine w.st (j:=3*t+2) O (λN r=>by rw[y]at r;cases r;rw[add_lit,add_lit];congr 1;omega) λσ' e J=>?_;have z:gI L.ts (H.bQ.set t {g with ph:=p})=(gI L.ts H.bQ).set (3*t+2) (j9 p):=by
  have:=yQ hx hg (d:=2) (v:=j9 p) (x':=x) (h':={g with ph:=p}) O (by simp[iF]);rw[this,QG hx]
 obtain⟨e1,C⟩:=u σ' {H with bQ:=H.bQ.set t {g with ph:=p}} L G (h.s.eC (ts:=L.ts) (by simp[h.s.ts]) aA) (λj D=>by
  cases j<;>first|rfl|exact absurd rfl D|skip
  ·rename_i m;by_cases hm:t=m
   ·subst hm;simp only[CH,zK i,hx,hg];rfl
   ·simp only[CH,zd hm]
  ·rename_i m;by_cases hm:t=m
   ·subst hm;simp only[CH,zK i,hx,hg];rfl
   ·simp only[CH,zd hm]) e (λb y=>.inl y) (by simp only[CH,z];exact J)
 exact hK σ' e1 (C.mono (λb _ hx=>by
  rcases hx with hx|hx
  ·exact hx.1
  ·exact B b hx) h.o h.o2)
end Go.Ar
namespace Go.Ar
open Go Go.Vc Go.Proofs
open Go.Bu (YS Q8 Zx)
variable {U:Hp}{F H:Rg}{p hs:Nat}{A:AR}{sp:Sp}{Y:Lay}{T:Nat->Hp->Rg->Prop}
theorem uA {a1 b1 a2 b2 b:Nat}(d:b1<=a2\/b2<=a1)(h1:a1<=b/\b<b1)(h2:a2<=b/\b<b2):False:=by omega
theorem si {a b r:Nat}(d:r<a\/b<=r)(h:a<=r/\r<b):False:=by omega
theorem LB {w:Hp}{z a1 b1 a2 b2 a3 b3 a4 b4:Nat}(hT:∀k,dH (T k))(hc:A.cI=[])(hcr:Y.dF=⟨none,0,0⟩)(htr:Y.cK=⟨none,0,0⟩)(hcp:Y.eU=[])(htp:Y.fT=[])(hT0:∀k U F,T k U F)
 (p1:cS Y.cH 3 (fB A.tb) w λb=>a1<=b/\b<b1) (p2:pj Y.fr A.n A.S w λb=>a2<=b/\b<b2) (p3:ko Y.tr A.st w λb=>a3<=b/\b<b3) (p4:gJ w (λb=>a4<=b/\b<b4) Y.op A.ow) (p5:dD w Y.rn .i64 bN (gK A.runs)) (p6:bY w Y.p (iZ Y))
 (hz:z<=a1/\z<=a2/\z<=a3/\z<=a4/\z<=Y.rn/\z<=Y.p)
 (d12:b1<=a2\/b2<=a1) (d13:b1<=a3\/b3<=a1) (d14:b1<=a4\/b4<=a1) (d23:b2<=a3\/b3<=a2) (d24:b2<=a4\/b4<=a2) (d34:b3<=a4\/b4<=a3)
 (e1:Y.rn<a1\/b1<=Y.rn) (e2:Y.rn<a2\/b2<=Y.rn) (e3:Y.rn<a3\/b3<=Y.rn) (e4:Y.rn<a4\/b4<=Y.rn) (f1:Y.p<a1\/b1<=Y.p) (f2:Y.p<a2\/b2<=Y.p) (f3:Y.p<a3\/b3<=Y.p) (f4:Y.p<a4\/b4<=Y.p) (g:Y.rn≠Y.p) :
 Sep (fA A Y T (iZ Y)) w λb=>z<=b:=by
 have d:∀i,dH (fA A Y T (iZ Y) i):=fA.loc hT;have B:Sep (iH (fA A Y T (iZ Y)) S0) w λ_=>False:=iH.one S0 .hd λi m=>by
  cases i<;>first|exact m.elim|skip
  ·show bR Y.dF 1 (eB Y.eU) w _;rw[hcr,hcp];exact bR.nil _ _ _ _
  ·show bR Y.cK 1 (eB Y.fT) w _;rw[htr,htp];exact bR.nil _ _ _ _
  ·rename_i k;show j2 Y.eU[k]? A.tb[k]? A.cI[k]? w _;rw[hcp];exact trivial
  ·exact hT0 _ _ _
 have r:=iH.put d B .cH (G:=λb=>a1<=b/\b<b1) (λb e a=>a) p1;have u:=iH.put d r .free (G:=λb=>a2<=b/\b<b2) (λb e a=>by
  rcases a with a|a
  ·exact a
  ·exact uA d12 a e) p2
 have s:=iH.put d u .l4 (G:=λb=>a3<=b/\b<b3) (λb e a=>by
  rcases a with(a|a)|a
  ·exact a
  ·exact uA d13 a e
  ·exact uA d23 a e) p3
 have j:=iH.put d s .own (G:=λb=>a4<=b/\b<b4) (λb e a=>by
  rcases a with((a|a)|a)|a
  ·exact a
  ·exact uA d14 a e
  ·exact uA d24 a e
  ·exact uA d34 a e) p4
 have x:=iH.put d j .runs (G:=λb=>b=Y.rn) (λb e a=>by
  subst e;rcases a with(((a|a)|a)|a)|a
  ·exact a
  ·exact si e1 a
  ·exact si e2 a
  ·exact si e3 a
  ·exact si e4 a) ⟨rfl,p5⟩
 have y:=iH.put d x .hd (G:=λb=>b=Y.p) (λb e a=>by
  subst e;rcases a with((((a|a)|a)|a)|a)|a
  ·exact a
  ·exact si f1 a
  ·exact si f2 a
  ·exact si f3 a
  ·exact si f4 a
  ·exact g a.symm) ⟨rfl,p6⟩
 clear d12 d13 d14 d23 d24 d34 e1 e2 e3 e4 f1 f2 f3 f4;refine(Sep.loc d).mono (iH.all y λi=>?_) λb _ a=>?_
 ·cases i<;>simp[S0]
 ·rcases a with(((((a|a)|a)|a)|a)|a)|a
  ·exact a.elim
  ·omega
  ·omega
  ·omega
  ·omega
  ·rw[a];exact hz.2.2.2.2.1
  ·rw[a];exact hz.2.2.2.2.2
theorem My (l:List (Nat×Nat))(x:Nat):(gK l).filter (λy=>!(y.1==(x:Int)))=gK (l.filter λr=>!(r.1==x)):=by
 unfold gK;rw[List.filter_map]
 congr 1
 apply wL;intro r _;simp only[Function.comp_def];rw[jg]
theorem Jg:∀{l:List (Nat×Nat)} {r:Nat×Nat},(l.map (·.1)).Nodup->r∈l->l.Perm (r::l.filter λy=>!(y.1==r.1))
 | [],_,_,h=>by simp at h
 | y::l,r,hn,h=>by
  simp only[zX,zo]at hn;rcases zW.1 h with h1|h1
  ·subst h1;have:l.filter (λz=>!(z.1==r.1))=l:=by
    rw[qF];intro z hz;have:z.1≠r.1:=λe=>hn.1 (zD.2 ⟨z,hz,e⟩);simpa using this
   rw[yX aA,this]
  ·have a:y.1≠r.1:=λe=>hn.1 (zD.2 ⟨_,h1,e.symm⟩);rw[xQ (by simpa using a)];exact((Jg hn.2 h1).cons y).trans (List.Perm.swap _ _ _)
def Kn (A:AR)(rs:List (Nat×Nat))(i:Nat):AR:={A with cI:=A.cI.take i,cF:=A.cF.take i,runs:=rs}
theorem Na {i:Nat}{ss:List cM}{t:gg}(h1:A.cI[i]?=some ss)(h2:A.cF[i]?=some t)(rs:List (Nat×Nat)):({Kn A rs i with cI:=(Kn A rs i).cI++[ss],cF:=(Kn A rs i).cF++[t]}:AR)=Kn A rs (i+1):=by
 unfold Kn;rw[zj,zj,h1,h2];rfl
theorem ME {i:Nat}(h1:A.cI.length=i)(h2:A.cF.length=i)(rs:List (Nat×Nat)):Kn A rs i = {A with runs:=rs}:=by
 unfold Kn;rw[l0 O,l0 O]
theorem Ur {s:Sl}{tb:List cD}(h:cS s 3 (fB tb) U F)(hl:tb.length<=40){R:Sl->Hp->Prop}(hR:∀s' σ',aG U σ'->cS s' 3 (fB tb) σ' (λb=>U.size<=b)->R s' σ'):Wb.c s U R:=by
 refine Wb.o ?_;unfold Wb.v;have a:=h.1;rw[V7]at a;exact yc h aB rfl JN aB O λs' σ' _ e d=>hR s' σ' e d.fM
theorem MA {cs:List Value}(hT:∀k,dH (T k))(h:Sep (fA A Y T cs) U F):F Y.rn/\dD U Y.rn .i64 bN (gK A.runs)/\∀(σ':Hp) (rs:List (Nat×Nat)),QT U σ' Y.rn->dD σ' Y.rn .i64 bN (gK rs)->Sep (fA {A with runs:=rs} Y T cs) σ' F:=by
 obtain⟨G,g,⟨e,m⟩,_,d⟩:=h.jx (fA.loc hT) .runs;refine⟨g _ e,m,λσ' rs r p=>?_⟩;refine(Sep.loc (fA.loc hT)).mono (d σ' (fA {A with runs:=rs} Y T cs) G (λj s=>?_) (r.ext.sub λb a=>by subst a;exact e) (λb a=>.inl a) ⟨e,p⟩ (fA.loc hT _)) λb _ a=>vA g (λb a=>a) b a;cases j<;>first|rfl|exact absurd rfl s
theorem RU (h:dA U F Y A (cA A Y))(hS:cZ U H Y.hs sp){hs2:Nat}{H2:Rg}{sp2:Sp}(hS2:cZ U H2 hs2 sp2){R:Option Addr->Hp->Prop}(h0:sp2.st.length≠sp.st.length->R none U)
 (h1:sp2.st.length=sp.st.length->∀σ' Yn rs,aG U σ'->Yn.hs=hs2->rs.Perm A.runs->dA σ' (λb=>U.size<=b) Yn {A with runs:=rs} (cA {A with runs:=rs} Yn)->R (some ⟨Yn.p,0,none⟩) σ') :
 YA.c (aW Y.p) (some ⟨hs2,0,none⟩) U R:=by
 refine YA.o ?_;unfold YA.v;have ht2:=h.lay.nC;refine⟨λ(t:Bool) w=>w=U/\(t=true↔sp2.st.length≠sp.st.length),?_,?_⟩
 rotate_left
 ·have hne:((((sp2.st.length:Nat):Int) != ((sp.st.length:Nat):Int))=true↔sp2.st.length≠sp.st.length):=by rw[pJ];simp
  refine VB h (bZ rfl (bO ⟨He hS2 (h.hd.rP rfl (He hS ⟨rfl,hne⟩)),h.hd.rP rfl (He hS2 (He hS ⟨rfl,hne⟩))⟩))
 rintro t w ⟨rfl,ht⟩;refine cU (λhc=>h0 (ht.1 hc)) λhc=>?_;have heq:sp2.st.length=sp.st.length:=Classical.byContradiction λhn=>by rw[ht.2 hn]at hc;cases hc
 have h1:=h1 heq;refine⟨λ(vx:Option Addr) v=>∃Yn:Lay,vx=some ⟨Yn.p,0,none⟩/\Yn.hs=hs2/\Yn.eU=[]/\Yn.fT=[]/\aG w v/\Sep (fA (Kn A [] 0) Yn (cA (Kn A [] 0) Yn) (iZ Yn)) v (λb=>w.size<=b),?_,?_⟩
 ·-- the lists,and the runs
  rintro vx v ⟨Y1,rfl,hYh,hYc,hYt,ev,hsep0⟩;have hv0:=h.aF ev;refine bO (hv0.hd.rS rfl ?_);have hcl:=h.sv;refine Zw (a:=bN) (λ(t:Int) u=>∃(i:Nat) (Yn:Lay),t=(i:Int)/\i<=A.tb.length/\Yn.p=Y1.p/\Yn.hs=hs2/\Yn.eU.length=i/\Yn.fT.length=i/\aG w u/\Sep (fA (Kn A [] i) Yn (cA (Kn A [] i) Yn) (iZ Yn)) u (λb=>w.size<=b)) (λt _=>A.tb.length-t.toNat)
   ⟨0,Y1,rfl,O,rfl,hYh,by rw[hYc];rfl,by rw[hYt];rfl,ev,hsep0⟩ ?_
  rintro t u ⟨i,Yn,rfl,hi,hYp,hYh2,hYc2,hYt2,eu,ac⟩;have hu:=h.aF eu;have sw:=eu.1;refine cL (λhlt=>?_) λhge=>?_
  ·have hi':i<A.tb.length:=by simp only at hlt;omega
   obtain⟨c,ss,q,t,r,hc,hss,hq,ht,hr,hok⟩:=h.at_ hi';refine hu.kc hq ?_;obtain⟨Gc,psc,hGc,hC⟩:=hu.cI hq hc hss;obtain⟨Gt,hGt,hTf⟩:=hu.cF hr hc ht;obtain⟨Gr,hGr,hrow⟩:=h.sep.get .cK;have hrow:bR Y.cK 1 (eB Y.fT) w Gr:=hrow;obtain⟨rb,ro,hra,hrc⟩:=hrow.fM.cell (j:=i) (v:=.pointer (some ⟨r,0,none⟩)) (by simp[eB,hr]);have hrlt:=KB hrc;have htl:=h.jb;rw[←hYp];have hT:∀k,dH (cA (Kn A [] i) Yn k):=λk=>cA.loc k;have hcut:=wj hT ac;have hCuo:∀{m:Hp},Ext (λb=>w.size<=b) w m->bY m Y.p (iZ Y):=λe=>e.bX h.hd (by have:=h.hd.lt;omega);refine⟨λm=>bY m Yn.p (iZ Yn)/\Ext (λb=>w.size<=b) w m,⟨(jh ac).1,aG.to eu⟩,bO ⟨Yn.dF,λm K=>by rw[add_lit,K.1.cell];rfl,bO ⟨Yn.cK,λm K=>by rw[add_lit,K.1.cell];rfl,bO ⟨Y.cK,λm K=>by rw[add_lit,(hCuo K.2).cell];rfl,?_⟩⟩⟩⟩;show Ix Y.cK.a Y.cK.len (i:Int) 1 _;rw[hra];refine ix O O ⟨some ⟨r,0,none⟩,λm K=>?_,?_⟩
   ·rw[add_lit,show ro+(i:Int).toNat*1=ro+i by omega,Ki K.2 hrlt O];exact hrc
   refine M3 hC λv3 cp psc' d hcp hC3=>?_;have h3:=nS hT hcut d;have x3:Ext (λb=>w.size<=b) w v3:=aG.to (Ext.trans eu d);refine⟨⟨(jh h3).1,x3⟩,nw (cs:=[.pointer (some ⟨cp,0,none⟩)]) λv4 z4 g b4=>?_⟩;have h4:=nS hT h3 g;have s3:=d.1;have x4:Ext (λb=>w.size<=b) w v4:=x3.trans (aG.to g);refine⟨⟨(jh h4).1,x4⟩,Dx hT h4 (by rw[hYc2];unfold Kn;simp;omega) O b4 (λE=>by have:=E.2;omega) λs1 v5 z h5=>?_⟩;have h5':Sep (fA (Kn A [] i) {Yn with dF:=s1,eU:=Yn.eU++[cp]} (cA (Kn A [] i) {Yn with dF:=s1,eU:=Yn.eU++[cp]}) (iZ Yn)) v5 (Grow (Cut (λb=>w.size<=b) u) v4):=h5;have c5:=wj (λk=>cA.loc k) h5';have x5:Ext (λb=>w.size<=b) w v5:=x4.trans (z.sub λb B=>B.1);have s5:=z.1;refine⟨⟨(jh h5').1,x5⟩,?_⟩;have hTf5:=(ij.loc (p:=r) (batch:=c.batch) (room:=A.room) (t:=t)).bV ((ij.loc (p:=r) (batch:=c.batch) (room:=A.room) (t:=t)).cut (h.cF hr hc ht).choose_spec.2) x5 λb B E hx=>by have:=E.2;omega
   refine LG hTf5 λv6 C e6 htp hT6=>?_;have h6:=nS (λk=>cA.loc k) c5 e6;have x6:=x5.trans (aG.to e6);have s6:=e6.1;refine⟨⟨(jh h6).1,x6⟩,nw (cs:=[.pointer (some ⟨C,0,none⟩)]) λv7 z7 e7 b7=>?_⟩;have h7:=nS (λk=>cA.loc k) h6 e7;have x7:=x6.trans (aG.to e7);refine⟨⟨(jh h7).1,x7⟩,DK h7 (by simp only;rw[hYt2];unfold Kn;simp;omega) aC b7 (λE=>by have:=E.2;omega) λs2 v8 e8 h8=>?_⟩;have x8:=x7.trans (e8.sub λb (B:Cut (Grow (Cut (λb=>w.size<=b) u) v4) v5 b)=>show w.size<=b from by
    rcases B.1 with h|h
    ·exact h.1
    ·omega)
   refine⟨⟨(jh h8).1,x8⟩,?_⟩;have kC:=(eX.loc (c:=c) (ps:=psc') (ss:=ss) (p:=cp)).bV (QN (eX.loc (c:=c) (ps:=psc') (ss:=ss) (p:=cp)) hC3) ((((aG.to g:Ext (Cut (λb=>w.size<=b) u) v3 v4).trans z).trans (aG.to e6)).trans (aG.to e7)) λb _ B E=>by have:=E.2;omega
   have kC8:=(eX.loc (c:=c) (ps:=psc') (ss:=ss) (p:=cp)).bV kC e8 λb _ B E=>by
    rcases E.1 with h|h
    ·have:=h.2;omega
    ·omega
   have kT:=(ij.loc (p:=C) (batch:=c.batch) (room:=A.room) (t:=t)).bV ((ij.loc (p:=C) (batch:=c.batch) (room:=A.room) (t:=t)).aF (QN (ij.loc (p:=C) (batch:=c.batch) (room:=A.room) (t:=t)) hT6) e7) e8 λb _ B E=>by have:=E.2;omega
   have e8z:=e8.1;refine CW (i:=i) (F:=Grow (Cut (Grow (Cut (λb=>w.size<=b) u) v4) v5) v7) ⟨hYc2,hYt2⟩ h8 (by unfold Kn;rw[zL];have:=h.lay.cI;omega) (by unfold Kn;rw[zL];have:=h.lay.cF;omega) hc kC8 kT (λb B E=>?_) (λb B E=>?_) (λb B hb2=>O) λu2 Y' e9 y1 y2 y3 y4 h9=>?_
   ·rcases E with E|E
    ·rcases E.1 with h|h
     ·have:=h.2;omega
     ·omega
    ·omega
   ·rcases E with E|E
    ·have:=E.2;omega
    ·omega
   ·rw[Na hss ht]at h9;have x9:Ext (λb=>w.size<=b) w u2:=x8.trans (e9.sub λb B=>show w.size<=b from by
     rcases B with B|B
     ·rcases B.1 with h|h
      ·exact h.1
      ·omega
     ·omega)
    refine cC (m:=i+1) O O ⟨⟨i+1,Y',rfl,O,y1,y2.trans hYh2,y3,y4,Ext.fresh (Ext.refl _ _) x9 λb B=>B,(Sep.loc (fA.loc λk=>cA.loc k)).mono h9 λb _ B=>?_⟩,O⟩;rcases B with(B|B)|B
    ·rcases B with B|B
     ·rcases B.1 with h|h
      ·exact h.1
      ·omega
     ·omega
    ·omega
    ·omega
  ·have hii:i=A.tb.length:=by simp only at hge;omega
   subst hii;rw[ME h.lay.cI h.lay.cF]at ac;obtain⟨_,K,_⟩:=hu.nA;rw[←hYp];refine bO (hu.hd.rM rfl (q9 (c:=bN) K (λtodo x=>∃rs td,todo=gK td/\(rs++td).Perm A.runs/\aG w x/\u.size<=x.size/\Sep (fA {A with runs:=rs} Yn (cA {A with runs:=rs} Yn) (iZ Yn)) x (Cut (λb=>w.size<=b) u)) (λx hz ex=>⟨[],A.runs,rfl,List.Perm.refl _,Ext.trans eu ex,ex.1,nS (λk=>cA.loc k) (wj (λk=>cA.loc k) ac) ex⟩) (λx hx=>?_) ?_))
   ·obtain⟨rs,td,htd,D,ex,_,hs2⟩:=hx;have:td=[]:=by
     cases td with
     | nil=>rfl
     | cons a l=>simp[gK]at htd
    subst this;rw[j7]at D;rw[E9]at hs2;refine h1 x Yn rs ex hYh2 D ⟨⟨hYc2,hYt2,h.lay.cI,h.lay.cF,h.lay.lA,h.lay.nC,h.lay.n1,h.lay.n2,h.lay.n3,h.lay.st,h.lay.room,h.lay.ok⟩,λk=>cA.loc k,(Sep.loc (AC.loc λk=>cA.loc k)).mono hs2 λb _ B=>B.1⟩
   ·rintro todo n (m:Int) x x' J ⟨rs,td,rfl,D,ex,hux,hs2⟩ hx ho hlt hJ;obtain⟨rr,hrr,hre⟩:=zD.1 hx;cases hre;have hs3:=(Sep.loc (fA.loc (λk=>cA.loc k))).bV hs2 ho.ext λb _ B E=>by have:=B.2;omega
    obtain⟨gr,hmn,hput⟩:=MA (λk=>cA.loc k) hs3;have hb3:=(jh hs3).1;refine bO (hb3.rM rfl ⟨Yn.rn,_,rfl,hmn,λx2 o2 hm2=>?_⟩);have hm2':dD x2 Yn.rn .i64 bN (dO (gK rs) (rr.1:Int) (rr.2:Int)):=hm2;have hnd:(A.runs.map (·.1)).Nodup:=by
     have:=K.nodup;unfold gK at this;rw[mC]at this;exact(qJ.1 this |>.imp λ{a b} hab heq=>hab (by simp only[Function.comp_def];omega)) |> qJ.2
    have hnd2:((rs++td).map (·.1)).Nodup:=(D.map _).nodup_iff.2 hnd;rw[lr,n0]at hnd2;have hnew:cE.mset2 rs rr.1 rr.2=rs++[rr]:=by
     unfold cE.mset2;rw[zA];rw[pY,mE];intro y hy hyr;have:y.1=rr.1:=by simpa using hyr
     exact hnd2.2.2 _ (zD.2 ⟨y,hy,rfl⟩) _ (zD.2 ⟨rr,hrr,rfl⟩) this
    rw[Ip,hnew]at hm2';have hs4:=hput x2 _ o2 hm2';have gr2:=gr.2;have gr1:=gr.1;refine hJ x2 (o2.2 _ O) (o2.2 _ (by have:=h.nA.2.1.lt;intro e;omega)) ⟨rs++[rr],td.filter λy=>!(y.1==rr.1),My td rr.1,?_,Ext.fresh (Ext.fresh ex ho.ext λb B=>O) o2.ext λb B=>by subst B;exact gr1,by rw[o2.1,ho.1];exact hux,hs4⟩;rw[zm];exact((Jg hnd2.2.1 hrr).symm.append_left rs).trans D
 ·-- the parts without lists
  refine⟨λm=>aG w m,Ext.refl _ _,bO (h.qI (c:=.s) (x:=Y.cH) rfl (bO (h.qI (c:=.p) (x:=some ⟨Y.fr,0,none⟩) rfl (bO (h.qI (c:=.p) (x:=some ⟨Y.tr,0,none⟩) rfl (bO (h.qI (c:=.p) (x:=some ⟨Y.op,0,none⟩) rfl ?_)))))))⟩;have fin:∀(u:Hp) (cH:Sl) (fr C op rn a1 b1 a2 b2 a3 b3 a4 b4:Nat),aG w u->cS cH 3 (fB A.tb) u (λb=>a1<=b/\b<b1)->pj fr A.n A.S u (λb=>a2<=b/\b<b2)->ko C A.st u (λb=>a3<=b/\b<b3)->gJ u (λb=>a4<=b/\b<b4) op A.ow->dD u rn .i64 bN [] →
   (w.size<=a1/\w.size<=a2/\w.size<=a3/\w.size<=a4/\w.size<=rn)->(b1<=a2\/b2<=a1)->(b1<=a3\/b3<=a1)->(b1<=a4\/b4<=a1)->(b2<=a3\/b3<=a2)->(b2<=a4\/b4<=a2)->(b3<=a4\/b4<=a3)->(rn<a1\/b1<=rn)->(rn<a2\/b2<=rn)->(rn<a3\/b3<=rn)->(rn<a4\/b4<=rn)->(b1<=u.size/\b2<=u.size/\b3<=u.size/\b4<=u.size) →
   Nw (.cells #[.slice cH.a cH.len cH.cap,.pointer (some ⟨hs2,0,none⟩),.pointer (some ⟨fr,0,none⟩),.pointer (some ⟨C,0,none⟩),.pointer (some ⟨op,0,none⟩),.slice none 0 0,.slice none 0 0,.map (some rn)] 135 (0,0)) u λn v20=>And (aG w v20) <|
    ∃Yn:Lay,some n=some ⟨Yn.p,0,none⟩/\Yn.hs=hs2/\Yn.eU=[]/\Yn.fT=[]/\aG w v20/\Sep (fA (Kn A [] 0) Yn (cA (Kn A [] 0) Yn) (iZ Yn)) v20 (λb=>w.size<=b):=by
   intro u cH fr C op rn a1 b1 a2 b2 a3 b3 a4 b4 eu p1 p2 p3 p4 p5 hz d12 d13 d14 d23 d24 d34 e1 e2 d g hu;refine nw (cs:=[.slice cH.a cH.len cH.cap,.pointer (some ⟨hs2,0,none⟩),.pointer (some ⟨fr,0,none⟩),.pointer (some ⟨C,0,none⟩),.pointer (some ⟨op,0,none⟩),.slice none 0 0,.slice none 0 0,.map (some rn)]) λv20 z20 aa b20=>⟨Ext.trans eu aa,?_⟩;have hrn:=p5.lt;have sw:=eu.1;refine⟨{p:=u.size,hs:=hs2,fr:=fr,tr:=C,op:=op,rn:=rn,cH:=cH,dF:=⟨none,0,0⟩,cK:=⟨none,0,0⟩,eU:=[],fT:=[]},rfl,rfl,rfl,rfl,Ext.trans eu aa,?_⟩;refine LB (A:=Kn A [] 0) (Y:={p:=u.size,hs:=hs2,fr:=fr,tr:=C,op:=op,rn:=rn,cH:=cH,dF:=⟨none,0,0⟩,cK:=⟨none,0,0⟩,eU:=[],fT:=[]}) (λk=>cA.loc k) (by simp[Kn]) rfl rfl rfl rfl (λk U F=>trivial) (aH.aF p1 aa) ((pj.loc _ _ _).aF p2 aa) ((ko.loc _ _).aF p3 aa) ((gJ.loc (p:=op) (ow:=A.ow)).aF p4 aa) (aa.fC p5 id) b20 ⟨hz.1,hz.2.1,hz.2.2.1,hz.2.2.2.1,hz.2.2.2.2,sw⟩ d12 d13 d14 d23 d24 d34 e1 e2 d g (.inr hu.1) (.inr hu.2.1) (.inr hu.2.2.1) (.inr hu.2.2.2) aC
  have tabAt:∀{m:Hp},aG w m->∃G:Rg,cS Y.cH 3 (fB A.tb) m G:=λe=>by
   obtain⟨G,_,B⟩:=(h.aF e).sep.get .cH;exact⟨G,B⟩
  have frAt:∀{m:Hp},aG w m->∃sb ms,Go.Bu.BH m Y.fr A.n A.S sb ms:=λe=>by
   obtain⟨sb,ms,hB,_⟩:=(h.aF e).free;exact⟨sb,ms,hB⟩
  have ab:∀{m:Hp},aG w m->∃q,gG m Y.tr q A.st:=λe=>by
   obtain⟨_,_,q,hT,_⟩:=(h.aF e).l4;exact⟨q,hT⟩
  have P:∀{m:Hp},aG w m->∃G,gJ m G Y.op A.ow:=λe=>by
   obtain⟨G,_,hP⟩:=(h.aF e).sep.get .own;exact⟨G,hP⟩
  have kS:=λ(s:Sl)=>cS.loc s 3 (fB A.tb);have kF:=λ(p:Nat)=>pj.loc p A.n A.S;have kT:=λ(p:Nat)=>ko.loc p A.st;have kP:=λ(p:Nat)=>gJ.loc (p:=p) (ow:=A.ow);refine⟨?_,?_⟩
  ·obtain⟨_,ht_⟩:=tabAt (Ext.refl _ _);refine Ur ht_ ht2 λcH v1 e1 pT=>⟨e1,?_,?_⟩
   ·obtain⟨_,_,hB_⟩:=frAt e1;refine Go.Bu.kh hB_ λv2 sb_ ms_ e2 W X=>⟨(Ext.trans e1 e2),?_,?_⟩
    ·obtain⟨_,Z⟩:=ab (Ext.trans e1 e2);refine HX Z λv3 C tq d Q V N=>⟨(Ext.trans (Ext.trans e1 e2) d),?_,?_⟩
     ·obtain⟨_,M⟩:=P (Ext.trans (Ext.trans e1 e2) d);refine UW M λv4 op g hop L=>⟨(Ext.trans (Ext.trans (Ext.trans e1 e2) d) g),?_⟩;refine Gj λv5 z5 z K=>⟨(Ext.trans (Ext.trans (Ext.trans (Ext.trans e1 e2) d) g) z),?_⟩;have s1:=e1.1;have s2:=e2.1;have s3:=d.1;have s4:=g.1;have s5:=z.1;exact fin v5 cH v1.size C op v4.size w.size v1.size v1.size v2.size v2.size v3.size v3.size v4.size (Ext.trans (Ext.trans (Ext.trans (Ext.trans e1 e2) d) g) z) ((kS cH).aF (QN (kS cH) pT) (Ext.trans (Ext.trans (Ext.trans e2 d) g) z)) ((kF _).aF (QN (kF _) ⟨_,_,W,X⟩) (Ext.trans (Ext.trans d g) z)) ((kT C).aF (QN (kT C) ⟨_,N,Q,V⟩) (Ext.trans g z)) ((kP op).aF (QN (kP op) L) z) (K _ _) O O O O O O O O O O O O
     ·refine Gj λv4 z4 g K=>⟨(Ext.trans (Ext.trans (Ext.trans e1 e2) d) g),?_⟩;obtain⟨_,M⟩:=P (Ext.trans (Ext.trans (Ext.trans e1 e2) d) g);refine UW M λv5 op z hop L=>⟨(Ext.trans (Ext.trans (Ext.trans (Ext.trans e1 e2) d) g) z),?_⟩;have s1:=e1.1;have s2:=e2.1;have s3:=d.1;have s4:=g.1;have s5:=z.1;exact fin v5 cH v1.size C op v3.size w.size v1.size v1.size v2.size v2.size v3.size v4.size v5.size (Ext.trans (Ext.trans (Ext.trans (Ext.trans e1 e2) d) g) z) ((kS cH).aF (QN (kS cH) pT) (Ext.trans (Ext.trans (Ext.trans e2 d) g) z)) ((kF _).aF (QN (kF _) ⟨_,_,W,X⟩) (Ext.trans (Ext.trans d g) z)) ((kT C).aF (QN (kT C) ⟨_,N,Q,V⟩) (Ext.trans g z)) (QN (kP op) L) (Ext.fC z (K _ _) id) O O O O O O O O O O O O
    ·refine Gj λv3 z3 d K=>⟨(Ext.trans (Ext.trans e1 e2) d),?_⟩;obtain⟨_,Z⟩:=ab (Ext.trans (Ext.trans e1 e2) d);refine HX Z λv4 C tq g Q V N=>⟨(Ext.trans (Ext.trans (Ext.trans e1 e2) d) g),?_⟩;obtain⟨_,M⟩:=P (Ext.trans (Ext.trans (Ext.trans e1 e2) d) g);refine UW M λv5 op z hop L=>⟨(Ext.trans (Ext.trans (Ext.trans (Ext.trans e1 e2) d) g) z),?_⟩;have s1:=e1.1;have s2:=e2.1;have s3:=d.1;have s4:=g.1;have s5:=z.1;exact fin v5 cH v1.size C op v2.size w.size v1.size v1.size v2.size v3.size v4.size v4.size v5.size (Ext.trans (Ext.trans (Ext.trans (Ext.trans e1 e2) d) g) z) ((kS cH).aF (QN (kS cH) pT) (Ext.trans (Ext.trans (Ext.trans e2 d) g) z)) ((kF _).aF (QN (kF _) ⟨_,_,W,X⟩) (Ext.trans (Ext.trans d g) z)) ((kT C).aF (QN (kT C) ⟨_,N,Q,V⟩) z) (QN (kP op) L) (Ext.fC (Ext.trans g z) (K _ _) id) O O O O O O O O O O O O
   ·refine Gj λv2 z2 e2 K=>⟨(Ext.trans e1 e2),?_⟩;obtain⟨_,_,hB_⟩:=frAt (Ext.trans e1 e2);refine Go.Bu.kh hB_ λv3 sb_ ms_ d W X=>⟨(Ext.trans (Ext.trans e1 e2) d),?_⟩;obtain⟨_,Z⟩:=ab (Ext.trans (Ext.trans e1 e2) d);refine HX Z λv4 C tq g Q V N=>⟨(Ext.trans (Ext.trans (Ext.trans e1 e2) d) g),?_⟩;obtain⟨_,M⟩:=P (Ext.trans (Ext.trans (Ext.trans e1 e2) d) g);refine UW M λv5 op z hop L=>⟨(Ext.trans (Ext.trans (Ext.trans (Ext.trans e1 e2) d) g) z),?_⟩;have s1:=e1.1;have s2:=e2.1;have s3:=d.1;have s4:=g.1;have s5:=z.1;exact fin v5 cH v2.size C op v1.size w.size v1.size v2.size v3.size v3.size v4.size v4.size v5.size (Ext.trans (Ext.trans (Ext.trans (Ext.trans e1 e2) d) g) z) ((kS cH).aF (QN (kS cH) pT) (Ext.trans (Ext.trans (Ext.trans e2 d) g) z)) ((kF _).aF (QN (kF _) ⟨_,_,W,X⟩) (Ext.trans g z)) ((kT C).aF (QN (kT C) ⟨_,N,Q,V⟩) z) (QN (kP op) L) (Ext.fC (Ext.trans (Ext.trans d g) z) (K _ _) id) O O O O O O O O O O O O
  ·refine Gj λv1 z1 e1 K=>⟨e1,?_⟩;obtain⟨_,ht_⟩:=tabAt e1;refine Ur ht_ ht2 λcH v2 e2 pT=>⟨(Ext.trans e1 e2),?_⟩;obtain⟨_,_,hB_⟩:=frAt (Ext.trans e1 e2);refine Go.Bu.kh hB_ λv3 sb_ ms_ d W X=>⟨(Ext.trans (Ext.trans e1 e2) d),?_⟩;obtain⟨_,Z⟩:=ab (Ext.trans (Ext.trans e1 e2) d);refine HX Z λv4 C tq g Q V N=>⟨(Ext.trans (Ext.trans (Ext.trans e1 e2) d) g),?_⟩;obtain⟨_,M⟩:=P (Ext.trans (Ext.trans (Ext.trans e1 e2) d) g);refine UW M λv5 op z hop L=>⟨(Ext.trans (Ext.trans (Ext.trans (Ext.trans e1 e2) d) g) z),?_⟩;have s1:=e1.1;have s2:=e2.1;have s3:=d.1;have s4:=g.1;have s5:=z.1;exact fin v5 cH v2.size C op w.size v1.size v2.size v2.size v3.size v3.size v4.size v4.size v5.size (Ext.trans (Ext.trans (Ext.trans (Ext.trans e1 e2) d) g) z) ((kS cH).aF (QN (kS cH) pT) (Ext.trans (Ext.trans d g) z)) ((kF _).aF (QN (kF _) ⟨_,_,W,X⟩) (Ext.trans g z)) ((kT C).aF (QN (kT C) ⟨_,N,Q,V⟩) z) (QN (kP op) L) (Ext.fC (Ext.trans (Ext.trans (Ext.trans e2 d) g) z) (K _ _) id) O O O O O O O O O O O O
end Go.Ar
namespace Go.Ar
open Go Go.Vc Go.Proofs
variable {U:Hp}{F:Rg}{L:dS}{H:Hw}{t k:Nat}
theorem QP (h:HH U F L H){R:aO}(hR:R true U):Wz.c (aW L.p) U R:=by
 refine Wz.o ?_;unfold Wz.v;have a:=h.jb;have b:=h.s.t1;refine bW.intro (cJ rfl (bO (h.hd.rS rfl ?_)));rw[zI aC];exact hR
theorem H5 (h:HH U F L H)(x:Int){R:aO}(hR:R (decide (0<=x/\x<(H.bQ.length:Int))) U):Yk.c (aW L.p) x U R:=by
 refine Yk.o ?_;unfold Yk.v;have b:=h.jb;refine bW.intro (cL (λa=>bO (h.hd.rS rfl ?_)) λa=>?_)
 ·have:decide (x<((L.cK.len:Nat):Int))=decide (0<=x/\x<(H.bQ.length:Int)):=by rw[decide_eq_decide,b];omega
  simp only[this];exact hR
 ·rw[zJ O]at hR;exact hR
theorem FJ (h:HH U F L H)(t:Nat){R:aN}(hR:R ((H.own t:Nat):Int) U):ZM.c (aW L.p) (t:Int) U R:=by
 refine ZM.o ?_;unfold ZM.v;have a:=h.jZ;have b:=h.s.a1;refine bO (h.hd.rS rfl (nz aC ?_));have:((t:Int).tmod ((L.eT.len:Nat):Int))=((H.own t:Nat):Int):=by rw[QY O,a];unfold Hw.own;omega
 simp only[this];exact hR
theorem Gm (h:HH U F L H)(x:Int)(hx9:x<=9223372036854775807){R:aN}(hR:∀σ',aG U σ'->R (Ye H.bT x) σ'):XQ.c (aW L.p) x U R:=by
 refine XQ.o ?_;unfold XQ.v;refine nw (cs:=[.int .i64 x]) λv hz e P=>P.sM rfl ?_;have Q:=h.aF e;by_cases hx:x<0
 ·have:=hR v e;unfold Ye at this;rw[zB hx]at this;exact jt hx this
 refine dR hx (bO (Q.hd.rS rfl ?_));have hl:=h.jZ;have X:=h.s.a2;refine Wl.o ?_;unfold Wl.v;refine Zw (a:=bN) (λ(z:Int) w=>∃i:Nat,z=(i:Int)/\i<=H.bT.length/\aG U w/\HH w F L H/\bY w U.size [.int .i64 x]/\∀j A,j<i->H.bT[j]?=some A->pA A (x/256)=false) (λz _=>H.bT.length-z.toNat) ⟨0,rfl,O,e,Q,P,λj A d=>O⟩ ?_;rintro z w ⟨i,rfl,hi,D,N,u,b⟩;refine cL (λC=>?_) λG=>?_
 ·simp only at C;have y:i<H.bT.length:=by omega
  have g:H.bT[i]?=some H.bT[i]:=cQ y;generalize H.bT[i]=A at g;obtain⟨Y,Z,V,K⟩:=N.ar g;refine N.rA Z (oP (all := #[.pointer (some ⟨Y.p,0,none⟩),.pointer (some ⟨U.size,0,none⟩)]) (by kernel_rfl) aA ?_);refine Zj.o ?_;unfold Zj.v;refine u.sM rfl (nz aB (ar (by rw[Xq O];omega) (by rw[Xq O];omega) ?_));rw[Xq O];refine LZ K (x/256) (cU (λW=>?_) λS=>?_)
  ·have:Ye H.bT x=(i:Int):=by
    unfold Ye;rw[zA hx];have:H.bT.findIdx? (λA=>pA A (x/256))=some i:=by
     obtain⟨E,rfl⟩:=cV.1 g;exact pd.2 ⟨E,W,λj d=>by rw[b j _ d (cQ O)];simp⟩
    rw[this]
   have r:=hR w D;rw[this]at r;exact r
  ·exact cC (m:=i+1) O O ⟨⟨i+1,rfl,O,D,N,u,λj B d J=>by
    by_cases e:j=i
    ·subst e;rw[g]at J;cases J;exact S
    ·exact b j B O J⟩,O⟩
 ·have M:i=H.bT.length:=by simp only at G;omega
  subst M;have:Ye H.bT x = -1:=by
   unfold Ye;rw[zA hx];have:H.bT.findIdx? (λA=>pA A (x/256))=none:=by
    rw[uD];intro A g;obtain⟨j,d⟩:=zN g;exact b j A (cV.1 d).1 d
   rw[this]
  have r:=hR w D;rw[this]at r;exact r
theorem G6 (h:HH U F L H){R:Int->Int->Int->Int->Int->Hp->Prop}(hR:∀σ',aG U σ'->R (H.cf.bK:Int) (H.cf.gS:Int) (H.cf.threads:Int) (H.cf.cT:Int) (H.cf.room:Int) σ'):Yv.c (aW L.p) U R:=by
 refine Yv.o ?_;unfold Yv.v;refine nw (cs:=[.int .i64 0,.int .i64 0,.int .i64 0,.int .i64 0,.int .i64 0]) λv r e g=>QP (h.aF e) (bZ rfl ?_);have hd:=(h.aF e).hd;refine bO (hd.gA rfl (hd.gA rfl (hd.gA rfl (hd.gA rfl (hd.gA rfl ?_)))));refine g.s1 aA λw o1 d=>d.s1 aA λs o2 i=>i.s1 aA λv3 o3 j=>j.s1 aA λu o4 b=>b.s1 aA λm o5 a=>?_;refine a.rI rfl (a.rI rfl (a.rI rfl (a.rI rfl (a.rI rfl (hR m ?_)))));exact((((e.only o1 (.inr (zC _))).only o2 (.inr (zC _))).only o3 (.inr (zC _))).only o4 (.inr (zC _))).only o5 (.inr (zC _))
theorem Wix (h:HH U F L H)(hl:H.tb.length<=40){R:Sl->Hp->Prop}(hR:∀s σ',aG U σ'->cS s 3 (fB H.tb) σ' (λb=>U.size<=b)->R s σ'):Y4.c (aW L.p) U R:=by
 refine Y4.o ?_;unfold Y4.v;exact QP h (bZ rfl (bO (h.hd.rS rfl (Ur h.iW hl hR))))
theorem JL (h:HH U F L H){R:Option Addr->Hp->Prop}(hR:R (some ⟨L.hs,0,none⟩) U):YW.c (aW L.p) U R:=by
 refine YW.o ?_;unfold YW.v;exact QP h (bZ rfl (bO (h.hd.rP rfl hR)))
theorem Wlg (h:HH U F L H)(x:Int)(hx:x<=9223372036854775807){R:Int->Int->Hp->Prop}(hR:∀σ',aG U σ'->R (if fG H.sp x=0 then H.sp.wd (x.toNat/8)else 0) (fG H.sp x) σ'):WT.c (aW L.p) x U R:=by
 refine WT.o ?_;unfold WT.v;exact JL h (LO h.By h.g x hx hR)
theorem Gu (h:HH U F L H)(gc:Gc U)(x v:Int)(hx:x<=9223372036854775807){R:aN}(hR:∀σ',Ext F U σ'->HH σ' (Grow F U) L {H with sp:=KZ H.sp x v}->R (fG H.sp x) σ'):XT.c (aW L.p) x v U R:=by
 refine XT.o ?_;unfold XT.v;obtain⟨G,m,i,d,a⟩:=h.wZ;refine JL h (P0 i h.g gc x hx v λσ' e b=>?_);obtain⟨e1,j⟩:=a σ' _ e b;exact hR σ' e1 j
theorem Lx (h:HH U F L H)(x:Int){R:Int->Int->Hp->Prop}(hR:∀σ',aG U σ'->R ((cB H.live x).elim 0 λb=>b.2.1) (if(cB H.live x).isSome then 0 else 8) σ'):Xx.c (aW L.p) x U R:=by
 refine Xx.o ?_;unfold Xx.v;refine QP h (bZ rfl (bO (h.hd.rM rfl ⟨_,h.jd,?_⟩)));refine nw (cs:=[.int .i64 0,.int .i64 0,.int .i64 0,.int .i64 0]) λv u e d=>?_;refine d.s1 aA λw o1 r=>r.s1 aA λy o2 s=>s.s1 aA λv3 o3 i=>i.s1 aA λv4 o4 j=>?_;have g:aG U v4:=(((e.only o1 (.inr (zC _))).only o2 (.inr (zC _))).only o3 (.inr (zC _))).only o4 (.inr (zC _));have a:=hR v4 g;cases hm:cB H.live x with
 | none=>
  rw[hm]at a;exact cJ rfl a
 | some b=>
  rw[hm]at a;refine bZ rfl (j.rI rfl ?_);have m:((cB H.live x).getD ((0,0,0,0):Bk)).2.1=b.2.1:=by rw[hm];rfl
  rw[m];exact a
theorem Uv (h:HH U F L H)(ht:t<H.bQ.length){R:Value->Hp->Prop}(hR:R (j9 (kj H t)) U):Xa.c (aW L.p) (t:Int) U R:=by
 refine Xa.o ?_;unfold Xa.v;obtain⟨x,g,d,a⟩:=h.th ht;refine bO (h.hd.rS rfl (h.tS d a ?_));obtain⟨G,i,b⟩:=h.sep.get (.hn t);simp only[CH,d,a,lq]at b;have e:=b.len;unfold kj at hR;rw[a]at hR;simp only at hR;by_cases h0:g.bP=[]
 ·rw[zB h0]at hR;exact cJ (by rw[e,h0];rfl) hR
 ·rw[zA h0]at hR;have:=qo.2 h0;exact bZ (by simp only[kR];omega) hR
theorem CI (h:HH U F L H)(x size cls:Int)(hx9:x<=9223372036854775807){R:Value->Int->Int->Hp->Prop}(hR:∀σ',Ext F U σ'->HH σ' F L (Ub H x size cls)->R .nilIface x 0 σ'):Zg.c (aW L.p) x size cls U R:=by
 refine Zg.o ?_;unfold Zg.v;refine nw (cs:=[.int .i64 0,.int .i64 0]) λv D e a=>?_;have j:=h.cut.aF e;refine⟨λu=>aG v u,Ext.refl _ _,bO ⟨some L.lm,λu y=>by rw[add_lit,((j.aF y).hd).cell];rfl,?_⟩⟩;refine Gm j x hx9 λE e1=>⟨e1,?_⟩;have w:=j.aF e1;obtain⟨B,d⟩:=w.sA;refine⟨L.lm,_,rfl,w.jd,λg o2 i=>?_⟩;obtain⟨e2,A⟩:=d g _ o2 i;have m:bY g U.size [.int .i64 0,.int .i64 0]:=Wm o2 (e1.bX a id) (by have:=B.2;omega);refine m.s1 aA λv3 o3 C=>C.s1 aA λv4 o4 s=>s.rI rfl (s.rI rfl (hR v4 ?_ ?_))
 ·exact(((aG.to (e.trans e1)).trans (e2.sub λb a=>a.1)).only o3 (.inr (zC _))).only o4 (.inr (zC _))
 ·have r:Ext (· = U.size) g v4:=o3.ext.trans o4.ext;have z:=h.wx A r (λb a=>O) (λb _ a G=>by have:=a.2;omega);exact z.mono (λb _ a=>a.1) h.o h.o2
theorem y9 (h:HH U F L H)(ht:t<H.bQ.length)(k:Nat){s:Sl}{xs:List Int}{X:Rg}(hs:cS s 1 (Wu xs) U X)(hc:s.len<=s.cap)(hxs:xs≠[])(hX:∀b,b<U.size->X b->¬F b)(oX:jk X)(oX2:¬X 1)(hlen:∀g,H.bQ[t]?=some g->g.bP.length<=1000){R:aP}
 (hR:∀σ' ts',Ext F U σ'->HH σ' (λb=>Grow F U b\/X b) {L with ts:=ts'} (Kl H t k xs)->R σ'):Yz.c (aW L.p) (t:Int) (k:Int) s U R:=by
 refine Yz.o ?_;unfold Yz.v;obtain⟨x,g,r,Y⟩:=h.th ht;have htl:=HN h.s.ts;have hrl:=h.jb;have hlen:=hlen g Y;obtain⟨G,D,hG,Q,hd,hB,hr,⟨E,hE1,hE2,hhd⟩,hput⟩:=h.cut.sD r Y (λb=>U.size<=b\/b<U.size/\X b) (λb m hf hn=>by
  rcases hn with hn|hn
  ·omega
  ·exact hX b m hn.2 hf.1) (λb m=>m.elim (h.mf.1 b) λm=>oX b m.2) (λm=>m.elim h.mf.2 λm=>oX2 m.2)
 obtain⟨ps,Dn,B,C,M,hj,W⟩:=hB;have A:∀u,Ext G U u->bY u L.p (qI L H.cf):=λu z=>((gR.loc _ _).bV hhd z λb _ m r=>hE1 b m r).2;have S:∀u,Ext G U u->bR L.cK 3 (gI L.ts H.bQ) u D:=λu z=>aI.bV hr z λb _ m r=>hd b r m;refine⟨λu=>Ext G U u,Ext.refl _ _,bO ⟨L.cK,λu z=>by rw[add_lit,(A u z).cell];rfl,bO ⟨L.cK,λu z=>by rw[add_lit,(A u z).cell];rfl,?_⟩⟩⟩;refine A4 (bR.fM hr) h.s.ts r Y (d:=1) O rfl λb o ha _=>⟨x.h,λu z=>?_,?_⟩
 ·obtain⟨b',o',V,hc'⟩:=UR (bR.fM (S u z)) r Y (d:=1) O rfl;rw[ha]at V;cases V;rw[add_lit,show o+3*t+1=o+(3*t+1) by omega];exact hc'
 refine nw (cs:=[.int .i64 (k:Int),.slice s.a s.len s.cap]) λv hz e m=>⟨aG.to e,?_⟩;have J:=(dL.loc _ _ _).aF ((dL.loc _ _ _).cut B) e;have N:=(kV.loc _ _).aF ((kV.loc _ _).cut C) e;have hs1:=aH.aF (aH.cut hs) e;have hpl:x.h.len=ps.length:=by have:=B.1;rw[Vm]at this;omega
 have hpg:ps.length=g.bP.length:=C.1;refine J.app (ys:=oV (k,s)) rfl rfl ?_ (λv hv=>Ga (l:=[(k,s)]) v (by simpa[fO]using hv)) ?_ ?_ mu λs' v2 hl2 e2 hr2=>?_
 ·intro j u z;rw[add_lit,zG,m.cell];exact z
 ·simp only;have:(x.h.len+1)*32<=1001*32:=lV O O;omega
 ·simp only;omega
 have hs2:=e2.1;have eG:Ext G U v2:=(aG.to e).trans (e2.sub λb m=>m.1.1);refine⟨eG,?_⟩;obtain⟨b0,aa⟩:∃b,L.cK.a=some ⟨b,0,none⟩:=by
  rcases hr.2 with⟨h0,_⟩|⟨b,_,_,ha,_⟩
  ·omega
  ·exact⟨b,ha⟩
 rw[aa];refine ix O O ?_;refine(S v2 eG).st (j:=3*t+1) O (λb' P=>by rw[aa]at P;cases P;rw[add_lit,add_lit];congr 1;omega) λσ' Z hr3=>?_;have hs3:=Z.1;have e03:Ext (λb=>G b\/D b) U σ':=(eG.sub λb m=>.inl m).trans (Z.sub λb m=>.inr m);have hr4:=(dL.loc _ _ _).bV ((dL.loc _ _ _).cut hr2) Z λb _ m r=>by
  rcases m.1 with h1|h1
  ·exact hd b h1.1.1 r
  ·have:=(Q b r).2;omega
 have hB4:=(kV.loc _ _).bV ((kV.loc _ _).bV N e2 λb _ m r=>r.1.2 m.1) Z λb _ m r=>hd b (M b m.1) r;have hs4:=aH.bV (aH.bV hs1 e2 λb m r w=>hX b r.2 r.1 (hG b w.1.1).1) Z λb _ r w=>hX b r.2 r.1 (Q b w).1;have hBt:gC s' (g.bP++[(k,xs)]) σ' (λb=>G b/\b<U.size\/b<U.size/\X b\/v.size<=b/\b<v2.size):=by
  refine⟨ps++[(k,s)],λb=>Dn b/\b<U.size\/b<U.size/\X b,?_,⟨by simp[hpg],λi p y hp w=>?_⟩,λb m=>?_,hj.snoc C W hs hxs (λb m r w=>hX b m w (hG b (M b r)).1) k,λy w=>?_⟩
  ·rw[HG];have:fO [(k,s)]=oV (k,s):=by simp[fO]
   rw[this];refine(dL.loc _ _ _).mono hr4 λq _ K=>?_;rcases K.1 with h1|h1
   ·exact⟨.inl ⟨h1.1.1,h1.2⟩,λr=>by
     rcases r with r|r
     ·exact h1.1.2 r.1
     ·exact hX q r.1 r.2 (hG q h1.1.1).1⟩
   ·exact⟨.inr (.inr ⟨h1,K.2⟩),λr=>by
     rcases r with r|r<;>omega⟩
  ·rcases zq i ps.length with hi|hi
   ·rw[zQ hi]at hp;rw[zQ O]at w;obtain⟨a1,a2,a3⟩:=hB4.2 i p y hp w;exact⟨a1,aH.mono a2 λq _ K=>.inl K,a3⟩
   ·rw[zg hi]at hp;rw[zg O]at w;have hi0:i-ps.length=0:=by
     have:=(cV.1 hp).1;simp at this;omega
    rw[hi0]at hp;rw[show i-g.bP.length=0 by omega]at w;simp at hp w;subst hp;subst w;exact⟨rfl,aH.mono hs4 λq _ K=>.inr ⟨K.2,K.1⟩,hc⟩
  ·rcases m with m|m
   ·exact .inl ⟨M b m.1,m.2⟩
   ·exact .inr (.inl m)
  ·rcases zS.1 w with h1|h1
   ·exact W y h1
   ·rw[zZ]at h1;subst h1;exact hxs
 obtain⟨eF,h4⟩:=hput σ' s' (g.bP++[(k,xs)]) (λb=>G b/\b<U.size\/b<U.size/\X b\/v.size<=b/\b<v2.size) D e03 (λb m=>by
  rcases m with m|m|m
  ·exact .inl (.inl m.1)
  ·exact .inr (.inr m)
  ·exact .inr (.inl O)) (λb m=>.inl (.inr m)) (λb m r=>by
  have:=(Q b r).2;rcases m with m|m|m
  ·exact hd b m.1 r
  ·exact hX b m.1 m.2 (Q b r).1
  ·omega) hBt hr3
 refine hR σ' (L.ts.set t {x with h:=s'}) (eF.sub λb m=>m.1) ?_;have e5:Kl H t k xs = {H with bQ:=H.bQ.set t {g with bP:=g.bP++[(k,xs)]}}:=by
  unfold Kl Hw.eC
  congr 1
  exact VF Y
 rw[e5];refine h4.mono (λb _ m=>?_) (λb (m:Grow F U b\/X b)=>m.elim (h.oG b) (oX b)) λ(m:Grow F U _\/X _)=>m.elim h.qB oX2;rcases m with m | (m|m|m)|m
 ·exact .inl (.inl m.1.1)
 ·exact .inl (.inl (hG b m.1).1)
 ·exact .inr m.2
 ·exact .inl (.inr O)
 ·exact .inl (.inl (Q b m).1)
end Go.Ar