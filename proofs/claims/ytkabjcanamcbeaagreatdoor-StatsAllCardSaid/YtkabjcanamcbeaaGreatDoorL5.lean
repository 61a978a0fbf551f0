/- Texts joined. -/
import Derived.Test.YtkabjcanamcbeaaGreatDoorL4
set_option linter.unusedVariables false
set_option linter.unusedSimpArgs false
namespace Go.Ar
open Go Go.Vc Go.Proofs
variable {σ:Hp}
theorem Jo:∀(xs:List (Int×Int×Int)),yf xs=true↔∀(i:Nat) a b,xs[i]?=some a->xs[i+1]?=some b->a.1<b.1
 | []=>by simp[yf]
 | [x]=>by simp[yf]
 | x::y::l=>by
  have ih:=Jo (y::l);show(decide (x.1<y.1)&&yf (y::l))=true↔_;rw[zG,ih,zV];constructor
  ·rintro⟨h1,h2⟩ i a b e d;cases i with
   | zero=>simp at e d;subst e;subst d;exact h1
   | succ i=>exact h2 i a b (by simpa using e) (by simpa using d)
  ·intro h;exact⟨h 0 x y rfl rfl,λi a b e d=>h (i+1) a b (by simpa using e) (by simpa using d)⟩
theorem Qx (xs:List (Int×Int×Int)):Qo xs=true↔1<=xs.length/\xs.length<=40/\(∀(i:Nat) t,xs[i]?=some t->UC t.1 t.2.1 t.2.2=true)/\∀(i:Nat) a b,xs[i]?=some a->xs[i+1]?=some b->a.1<b.1:=by
 unfold Qo;simp only[zG,zV,Jo,nD];constructor
 ·rintro⟨h1,h2,h3,h4⟩;exact⟨h1,h2,λi t d=>h3 t (zE d),h4⟩
 ·rintro⟨h1,h2,h3,h4⟩;exact⟨h1,h2,λt d=>by obtain⟨i,e⟩:=zM d;exact h3 i t e,h4⟩
theorem H5 {s:Sl}{xs:List (Int×Int×Int)}(ha:gM σ s xs){R:aO}(hR:∀σ',bO σ σ'->R (Qo xs) σ'):ZH.c s σ R:=by
 refine ZH.o ?_;have M:∀σ',bO σ σ'->¬(1<=xs.length/\xs.length<=40/\(∀(i:Nat) t,xs[i]?=some t->UC t.1 t.2.1 t.2.2=true)/\∀(i:Nat) a b,xs[i]?=some a->xs[i+1]?=some b->a.1<b.1)->R false σ':=λσ' e hn=>by
  have:=hR σ' e;have hf:Qo xs=false:=by rw[←uR,Qx];exact hn
  rw[hf]at this;exact this
 have Y:=ha.1;refine bZ.intro (cI (λc1=>cJ rfl (M σ (Ext.refl _ _) λh=>O)) λc1=>?_);refine cI (λc2=>M σ (Ext.refl _ _) λh=>O) λc2=>?_;refine ZV (a:=bN) (λ(t:Int) v=>∃i:Nat,t=(i:Int)/\i<=xs.length/\bO σ v/\(∀(j:Nat) t,j<i->xs[j]?=some t->UC t.1 t.2.1 t.2.2=true)/\∀(j:Nat) a b,j+1<i->xs[j]?=some a->xs[j+1]?=some b->a.1<b.1) (λt _=>xs.length-t.toNat)
  ⟨0,rfl,O,Ext.refl _ _,λj t h=>O,λj a b h=>O⟩ ?_
 rintro t v ⟨i,rfl,Q,e,W,X⟩;have L:=YP ha e;refine cI (λhlt=>?_) λhge=>?_
 ·have P:i<xs.length:=by omega
  have B:xs[i]?=some xs[i]:=cM P;generalize xs[i]=r at B;obtain⟨x,y,z⟩:=r;refine Hi L B ?_;refine nw (cs:=[.int .i64 0,.int .i64 0,.int .i64 0]) λv2 hz2 e2 b2=>b2.s1 aA λv3 o3 b3=>b3.s1 aA λv4 o4 b4=>b4.s1 aA λv5 o5 J=>?_;have e5:bO v v5:=Ext.fresh (Ext.fresh (Ext.fresh e2 o3.ext λi Q=>O) o4.ext λi Q=>O) o5.ext λi Q=>by omega
  refine Jn.intro ⟨(· = v5),rfl,⟨x,λm D=>by rw[D,add_lit,J.cell];rfl,⟨y,λm D=>by rw[D,add_lit,J.cell];rfl,⟨z,λm D=>by rw[D,add_lit,J.cell];rfl,?_⟩⟩⟩⟩;refine Em x y z λv7 V=>?_;have w:=(Ext.trans e e5).trans V;have C:(UC x y z=false\/∃a,0<i/\xs[i-1]?=some a/\x<=a.1)->R false v7:=λU=>M v7 w λK=>by
   rcases U with U|⟨a,H,hb1,hb2⟩
   ·have:=K.2.2.1 i _ B;simp only at this;rw[U]at this;cases this
   ·have:=K.2.2.2 (i-1) a (x,y,z) hb1 (by rw[show i-1+1=i by omega];exact B);simp only at this;omega
  cases hc:UC x y z
  ·exact cJ rfl (cJ rfl (C (.inl hc)))
  ·have next:(∀a,0<i->xs[i-1]?=some a->a.1<x)->Ar .i64 ((i:Int)+1) λg=>(∃i:Nat,g=(i:Int)/\i<=xs.length/\bO σ v7/\(∀(j:Nat) t,j<i->xs[j]?=some t->UC t.1 t.2.1 t.2.2=true)/\∀(j:Nat) a b,j+1<i->xs[j]?=some a->xs[j+1]?=some b->a.1<b.1)/\xs.length-g.toNat<xs.length-(i:Int).toNat:=by
    intro H;refine cA (m:=i+1) O O ⟨⟨i+1,rfl,O,w,λj t hj A=>?_,λj a b hj u d=>?_⟩,O⟩
    ·by_cases hji:j=i
     ·subst hji;rw[B]at A;cases A;exact hc
     ·exact W j t O A
    ·by_cases hji:j+1=i
     ·subst hji;rw[B]at d;cases d;exact H a O u
     ·exact X j a b O u d
   refine cG rfl (cI (λH=>?_) λH=>cG rfl (next λa mC=>O))
   have p:xs[i-1]?=some (xs[i-1]' O):=cM _;generalize xs[i-1]' O=r at p;obtain⟨N,y',z'⟩:=r;have E:=YP ha w;obtain⟨b,o,g1,g2,g3,g4,g5⟩:=E.2 (i-1) N y' z' p;have Z:=V.bV J id;refine cA (m:=i-1) O O ?_;rw[g1];refine ix O O ?_;have G:cell v7 ⟨b,o+(((i-1:Nat):Int)).toNat*3+0,none⟩=some (.int .i64 N):=by simpa using g3
   have fin:If (decide (x<=N)) (R false v7) (Ar .i64 ((i:Int)+1) λg=>(∃i:Nat,g=(i:Int)/\i<=xs.length/\bO σ v7/\(∀(j:Nat) t,j<i->xs[j]?=some t->UC t.1 t.2.1 t.2.2=true)/\∀(j:Nat) a b,j+1<i->xs[j]?=some a->xs[j+1]?=some b->a.1<b.1)/\xs.length-g.toNat<xs.length-(i:Int).toNat):=by
    refine cI (λS=>C (.inr ⟨_,O,p,S⟩)) λhgt=>next λa _ F=>?_
    rw[p]at F;cases F;simp only;omega
   rw[add_lit b o];exact⟨Z.rI rfl (dZ G fin),dZ G (Z.rI rfl fin)⟩
 ·have:i=xs.length:=by omega
  subst this;have K:Qo xs=true:=(Qx xs).2 ⟨O,O,λi t A=>W i t (cQ.1 A).1 A,λi a b u d=>X i a b (cQ.1 d).1 u d⟩;have:=hR v e;rw[K]at this;exact this
end Go.Ar
namespace Go.Ar
open Go Go.Vc Go.Proofs
open Go.Bu (Zg QW Zv jH)
variable {σ:Hp}{F H:Rg}{p hs:Nat}{A:AR}{sp:Sp}{Y:Lay}{T:Nat->Hp->Rg->Prop}
open Classical in
theorem _root_.Go.Vc.Sep.put {L:Type}{C C':L->Hp->Rg->Prop}{σ:Hp}{F G:Rg}(hC:∀i,dS (C i))(h:Sep C σ F)(i:L)(hd:∀b,G b->¬F b)(hj:∀j,j≠i->C' j=C j)(hi:C' i σ G)(hL:dS (C' i)):Sep C' σ λb=>F b\/G b:=by
 obtain⟨ρ,h⟩:=h;refine⟨λb=>if G b then i else ρ b,λj=>?_⟩
 by_cases hji:j=i
 ·subst hji;exact hL.mono hi λb _ d=>⟨.inr d,zB d⟩
 ·rw[hj j hji];refine(hC j).mono (h j) λb _ a=>⟨.inl a.1,?_⟩;show(if G b then i else ρ b)=j
  rw[zA λe=>hd b e a.1];exact a.2
def gP (A:AR)(Y:Lay)(T:Nat->Hp->Rg->Prop)(cs:List Value):Lb->Hp->Rg->Prop
 | .hd=>iW Y.p cs
 | i=>AC A Y T i
theorem gP.loc {cs:List Value}(hT:∀k,dS (T k)):∀i,dS (gP A Y T cs i)
 | .hd=>iW.loc _ _
 | .dH=>AC.loc (A:=A) (Y:=Y) hT .dH
 | .free=>AC.loc (A:=A) (Y:=Y) hT .free
 | .p9=>AC.loc (A:=A) (Y:=Y) hT .p9
 | .own=>AC.loc (A:=A) (Y:=Y) hT .own
 | .dJ=>AC.loc (A:=A) (Y:=Y) hT .dJ
 | .cL=>AC.loc (A:=A) (Y:=Y) hT .cL
 | .runs=>AC.loc (A:=A) (Y:=Y) hT .runs
 | .cB k=>AC.loc (A:=A) (Y:=Y) hT (.cB k)
 | .cE k=>AC.loc (A:=A) (Y:=Y) hT (.cE k)
theorem Pd:gP A Y T (nQ Y)=AC A Y T:=by
 funext i;cases i<;>rfl
theorem N7 {cs:List Value}(hT:∀k,dS (T k))(h:Sep (gP A Y T cs) σ F)(hlen:A.cB.length<=Y.fM.length)(hl:Y.fM.length<=40){vb cp ty:Nat}(hb:bX σ vb [.pointer (some ⟨cp,0,none⟩)])(hvb:¬F vb){K:Sl->Hp->Prop}
 (hK:∀s' σ',Ext F σ σ'->Sep (gP A {Y with dJ:=s',fM:=Y.fM++[cp]} T cs) σ' (Grow F σ)->K s' σ'):App Y.dJ 1 8 ty [.pointer none] ⟨some ⟨vb,0,none⟩,1,1⟩ σ K:=by
 obtain⟨G,g,d,_,a⟩:=h.mI (gP.loc hT) .dJ;have d:bS Y.dJ 1 (eY Y.fM) σ G:=d;have p:Y.dJ.len=Y.fM.length:=by have:=d.1;simp[eY]at this;omega
 refine d.app (ys:=[.pointer (some ⟨cp,0,none⟩)]) rfl rfl ?_ (by simp[dP]) aC aC qW λs' σ' r e i=>hK s' σ' (e.sub g) ?_
 ·intro j u hu;rw[add_lit,zI,hb.cell];exact hu
 refine(Sep.loc (gP.loc hT)).mono (a σ' (gP A {Y with dJ:=s',fM:=Y.fM++[cp]} T cs) (Grow G σ) (λj m=>?_) e (λb hb=>hb) ?_ (gP.loc hT _)) λb _ hb=>Hl g (λb hb=>hb) b hb
 ·cases j<;>first|rfl|exact absurd rfl m|skip
  rename_i k;show mU (Y.fM++[cp])[k]? A.tb[k]? A.cB[k]?=mU Y.fM[k]? A.tb[k]? A.cB[k]?;rcases pA k Y.fM.length with h1|h1
  ·rw[zh h1]
  ·have:A.cB[k]?=none:=za O;rw[this]
   funext σ F
   unfold mU;cases(Y.fM++[cp])[k]?<;>cases Y.fM[k]?<;>cases A.tb[k]?<;>rfl
 ·show bS s' 1 (eY (Y.fM++[cp])) σ' (Grow G σ);have:eY (Y.fM++[cp])=eY Y.fM++[.pointer (some ⟨cp,0,none⟩)]:=by simp[eY]
  rw[this];exact i
theorem Wi4 (hlen:A.cE.length<=Y.gF.length)(tp:Nat)(s':Sl):cF A {Y with cL:=s',gF:=Y.gF++[tp]}=cF A Y:=by
 funext k
 unfold cF;simp only;rcases pA k Y.gF.length with h1|h1
 ·rw[zh h1]
 ·have:A.cE[k]?=none:=za O;rw[this]
  funext σ F
  unfold oQ;cases(Y.gF++[tp])[k]?<;>cases Y.gF[k]?<;>cases A.tb[k]?<;>rfl
theorem Ns {cs:List Value}(h:Sep (gP A Y (cF A Y) cs) σ F)(hlen:A.cE.length<=Y.gF.length)(hl:Y.gF.length<=40){vb tp ty:Nat}(hb:bX σ vb [.pointer (some ⟨tp,0,none⟩)])(hvb:¬F vb){K:Sl->Hp->Prop}
 (hK:∀s' σ',Ext F σ σ'->Sep (gP A {Y with cL:=s',gF:=Y.gF++[tp]} (cF A {Y with cL:=s',gF:=Y.gF++[tp]}) cs) σ' (Grow F σ)->K s' σ'):App Y.cL 1 8 ty [.pointer none] ⟨some ⟨vb,0,none⟩,1,1⟩ σ K:=by
 have g:∀k,dS (cF A Y k):=λk=>cF.loc k;obtain⟨G,i,d,_,a⟩:=h.mI (gP.loc g) .cL;have d:bS Y.cL 1 (eY Y.gF) σ G:=d;have m:Y.cL.len=Y.gF.length:=by have:=d.1;simp[eY]at this;omega
 refine d.app (ys:=[.pointer (some ⟨tp,0,none⟩)]) rfl rfl ?_ (by simp[dP]) aC aC qW λs' σ' s e p=>hK s' σ' (e.sub i) ?_
 ·intro j u hu;rw[add_lit,zI,hb.cell];exact hu
 rw[Wi4 hlen];refine(Sep.loc (gP.loc g)).mono (a σ' (gP A {Y with cL:=s',gF:=Y.gF++[tp]} (cF A Y) cs) (Grow G σ) (λj r=>?_) e (λb hb=>hb) ?_ (gP.loc g _)) λb _ hb=>Hl i (λb hb=>hb) b hb
 ·cases j<;>first|rfl|exact absurd rfl r
 ·show bS s' 1 (eY (Y.gF++[tp])) σ' (Grow G σ);have:eY (Y.gF++[tp])=eY Y.gF++[.pointer (some ⟨tp,0,none⟩)]:=by simp[eY]
  rw[this];exact p
theorem LP {cs:List Value}(hT:∀k,dS (T k))(h:Sep (gP A Y T cs) σ F){i:Nat}{v:Value}(hi:i<cs.length){K:aP}(hK:∀σ',Ext F σ σ'->Sep (gP A Y T (cs.set i v)) σ' F->K σ'):cY (Addr.add ⟨Y.p,0,none⟩ i) v σ K:=by
 obtain⟨G,g,d,_,e⟩:=h.mI (gP.loc hT) .hd;have d:iW Y.p cs σ G:=d;refine d.2.s1 O λσ' o b=>hK σ' (o.ext.sub λb a=>by subst a;exact g _ d.1) ?_;rw[zI]at b;refine(Sep.loc (gP.loc hT)).mono (e σ' (gP A Y T (cs.set i v)) G (λj m=>?_) (o.ext.sub λb a=>by subst a;exact d.1) (λb a=>.inl a) ⟨d.1,b⟩ (gP.loc hT _)) λb _ a=>Cd g (λb a=>a) b a;cases j<;>first|rfl|exact absurd rfl m
theorem qH {cs:List Value}(h:Sep (gP A Y T cs) σ F):bX σ Y.p cs/\F Y.p:=by
 obtain⟨G,b,a,d⟩:=h.get .hd;exact⟨d,b _ a⟩
theorem Φ {cs:List Value}{i cp tp:Nat}{c:bY}{ss:List cH}{t:fT}{ps:List (Nat×Nat)}{Gc Gt:Rg}(h:Sep (gP A Y (cF A Y) cs) σ F)(hlc:A.cB.length=i)(hlt:A.cE.length=i)(hcp:Y.fM[i]?=some cp)(htp:Y.gF[i]?=some tp)(hc:A.tb[i]?=some c)
 (hC:fC σ Gc cp c ps ss) (hTf:iT σ Gt tp c.batch A.room t) (d1:∀b,Gc b->¬F b) (d2:∀b,Gt b->¬F b) (d3:∀b,Gc b->¬Gt b) :
 Sep (gP {A with cB:=A.cB++[ss],cE:=A.cE++[t]} Y (cF {A with cB:=A.cB++[ss],cE:=A.cE++[t]} Y) cs) σ λb=>(F b\/Gc b)\/Gt b:=by
 have g:∀k,dS (cF A Y k):=λk=>cF.loc k;have u:Sep (gP {A with cB:=A.cB++[ss]} Y (cF A Y) cs) σ λb=>F b\/Gc b:=by
  refine h.put (gP.loc g) (.cB i) d1 (λj d=>?_) ?_ (gP.loc g _)
  ·cases j<;>first|rfl|skip
   rename_i k;have r:k≠i:=λe=>d (by rw[e]);show mU Y.fM[k]? A.tb[k]? (A.cB++[ss])[k]?=mU Y.fM[k]? A.tb[k]? A.cB[k]?;rcases pA k i with h2|h2
   ·rw[zh O]
   ·have m:(A.cB++[ss])[k]?=none:=za (by rw[zK,yd];omega);have p:A.cB[k]?=none:=za O;rw[m,p]
  ·show mU Y.fM[i]? A.tb[i]? (A.cB++[ss])[i]? σ Gc;rw[hcp,hc,zp O,hlc,tB];exact⟨ps,hC⟩
 refine u.put (gP.loc g) (.cE i) (λb s a=>?_) (λj d=>?_) ?_ (gP.loc (λk=>cF.loc k) _)
 ·rcases a with a|a
  ·exact d2 b s a
  ·exact d3 b a s
 ·cases j<;>first|rfl|skip
  rename_i k;have r:k≠i:=λe=>d (by rw[e]);show oQ Y.gF[k]? A.tb[k]? A.room (A.cE++[t])[k]?=oQ Y.gF[k]? A.tb[k]? A.room A.cE[k]?;rcases pA k i with h2|h2
  ·rw[zh O]
  ·have m:(A.cE++[t])[k]?=none:=za (by rw[zK,yd];omega);have p:A.cE[k]?=none:=za O;rw[m,p]
 ·show oQ Y.gF[i]? A.tb[i]? A.room (A.cE++[t])[i]? σ Gt;rw[htp,hc,zp O,hlt,tB];exact hTf
open Classical in
noncomputable def lN {L:Type}(C:L->Hp->Rg->Prop)(S:L->Prop)(i:L):Hp->Rg->Prop:=if S i then C i else BY
theorem lN.loc {L:Type}{C:L->Hp->Rg->Prop}{S:L->Prop}(hC:∀i,dS (C i))(i:L):dS (lN C S i):=by
 unfold lN;split
 ·exact hC i
 ·exact BY.loc
theorem lN.put {L:Type}{C:L->Hp->Rg->Prop}{S:L->Prop}{F G:Rg}(hC:∀i,dS (C i))(h:Sep (lN C S) σ F)(i:L)(hd:∀b,G b->¬F b)(hi:C i σ G):Sep (lN C λj=>S j\/j=i) σ λb=>F b\/G b:=by
 refine h.put (lN.loc hC) i hd (λj a=>?_) ?_ (lN.loc hC i)
 ·unfold lN;by_cases hS:S j
  ·rw[zB (.inl hS),zB hS]
  ·rw[zA (λh=>hS (h.resolve_right a)),zA hS]
 ·unfold lN;rw[zB (.inr rfl)];exact hi
theorem lN.all {L:Type}{C:L->Hp->Rg->Prop}{S:L->Prop}{F:Rg}(h:Sep (lN C S) σ F)(hS:∀i,S i):Sep C σ F:=by
 have:lN C S=C:=by
  funext i;unfold lN;rw[zB (hS i)]
 rw[this]at h;exact h
theorem lN.one {L:Type}{C:L->Hp->Rg->Prop}(S:L->Prop)(l:L)(h:∀i,S i->C i σ λ_=>False):Sep (lN C S) σ λ_=>False:=by
 refine⟨λ_=>l,λi=>?_⟩;have:(λ(b:Nat)=>False/\l=i)=λ_=>False:=by funext b;simp
 rw[this];unfold lN;by_cases hS:S i
 ·rw[zB hS];exact h i hS
 ·rw[zA hS];trivial
theorem Mn {tb:List bY}:∀v∈gA tb,dP v=true:=by
 intro v hv;simp only[gA,tv]at hv;obtain⟨c,_,a⟩:=hv;simp at a;rcases a with rfl|rfl|rfl<;>rfl
theorem UW {s:Sl}{xs:List (Int×Int×Int)}(ha:gM σ s xs)(hv:Qo xs=true){i:Nat}{c:bY}(hc:(xs.map ZX)[i]?=some c):xs[i]?=some ((c.size:Int),(c.aF:Int),(c.batch:Int))/\c.ok:=by
 rw[zi,uK]at hc;obtain⟨⟨x,y,z⟩,b,rfl⟩:=hc;obtain⟨c,a,j,e,g,d⟩:=Cp (((Qx xs).1 hv).2.2.1 i _ b);simp only at e g d;rw[j,b,e,g,d];exact⟨rfl,a⟩
theorem Uk {s:Sl}{xs:List (Int×Int×Int)}(ha:gM σ s xs)(hv:Qo xs=true){R:Sl->Hp->Prop}(hR:∀s' σ',bO σ σ'->cT s' 3 (gA (xs.map ZX)) σ' (λb=>σ.size<=b)->R s' σ'):Wc.c s σ R:=by
 refine Wc.o ?_;have H:=(Qx xs).1 hv;have z:=ha.1;have w:0<(xs.map ZX).length:=by rw[zX];omega
 have D:(xs.map ZX)[0]?=some (xs.map ZX)[0]:=cM w;obtain⟨M,d,a,_⟩:=ha.2 0 _ _ _ (UW ha hv D).1;refine cG (by rw[a];rfl) (nw (cs:=[]) λv L y K=>?_);have r:=YP ha y;refine(bS.nil v (λb=>σ.size<=b) 3 (some ⟨σ.size,0,none⟩)).app (ys:=gA (xs.map ZX)) rfl (by rw[KT,zX];omega) ?_ Mn aC aC O λs' F E C g=>hR s' F (Ext.fresh y C λi p=>p) ?_
 ·rw[a];intro j u hu;have x:=(cQ.1 hu).1;rw[KT,zX]at x;have p:j/3<(xs.map ZX).length:=by rw[zX];omega
  have m:(xs.map ZX)[j/3]?=some (xs.map ZX)[j/3]:=cM p;generalize (xs.map ZX)[j/3]=c at m;have e:=HQ m;obtain⟨b,o,A,_,J,B,G⟩:=r.2 (j/3) _ _ _ (UW ha hv m).1;rw[a]at A;cases A;rw[add_lit];rcases(by omega:j=3*(j/3)\/j=3*(j/3)+1\/j=3*(j/3)+2)with hj|hj|hj
  ·rw[hj]at hu;rw[e.1]at hu;cases hu;rw[show d+j=d+j/3*3 by omega];exact J
  ·rw[hj]at hu;rw[e.2.1]at hu;cases hu;rw[show d+j=d+j/3*3+1 by omega];exact B
  ·rw[hj]at hu;rw[e.2.2]at hu;cases hu;rw[show d+j=d+j/3*3+2 by omega];exact G
 ·rw[sU]at g;refine aH.mono g.gE λb _ e=>?_;rcases e with h|h
  ·exact h
  ·omega
def fD (n room:Nat)(tb:List bY):AR:={n:=n,room:=room,tb:=tb,S:=Go.Bu.jB,st:=List.replicate n 0,ow:=λ_=>0,cB:=List.replicate tb.length [],cE:=List.replicate tb.length ⟨0,[]⟩,runs:=[]}
def lC (n room:Nat)(tb:List bY)(i:Nat):AR:={fD n room tb with cB:=List.replicate i [],cE:=List.replicate i ⟨0,[]⟩}
def oM (xs:List (Int×Int×Int))(n:Nat)(room:Int):Int:=if Qo xs then(if 32<=n/\n%16=0/\0<=room/\room<=8 then 0 else 1)else 2
def S0:Lb->Prop
 | .dJ | .cL | .cB _ | .cE _=>True
 | _=>False
theorem LM {i cp tp:Nat}{c:bY}{ss:List cH}{t:fT}{ps:List (Nat×Nat)}{Gc Gt:Rg}{dJ cL:Sl}(hpos:Y.fM.length=i/\Y.gF.length=i)
 (h:Sep (gP A {Y with dJ:=dJ,cL:=cL,fM:=Y.fM++[cp],gF:=Y.gF++[tp]} (cF A {Y with dJ:=dJ,cL:=cL,fM:=Y.fM++[cp],gF:=Y.gF++[tp]}) (nQ Y)) σ F)
 (hlc:A.cB.length=i) (hlt:A.cE.length=i) (hc:A.tb[i]?=some c) (hC:fC σ Gc cp c ps ss) (hTf:iT σ Gt tp c.batch A.room t) (d1:∀b,Gc b->¬F b) (d2:∀b,Gt b->¬F b) (d3:∀b,Gc b->¬Gt b) {K:aP}
 (hK:∀σ' Y',Ext F σ σ'->Y'.p=Y.p->Y'.hs=Y.hs->Y'.fM.length=i+1->Y'.gF.length=i+1->Sep (gP {A with cB:=A.cB++[ss],cE:=A.cE++[t]} Y' (cF {A with cB:=A.cB++[ss],cE:=A.cE++[t]} Y') (nQ Y')) σ' (λb=>(F b\/Gc b)\/Gt b)->K σ') :
 bQ (some ⟨Y.p,0,none⟩) λa93=>cY (a93.add 5) (.slice dJ.a dJ.len dJ.cap) σ λv25=>bQ (some ⟨Y.p,0,none⟩) λa95=>cY (a95.add 6) (.slice cL.a cL.len cL.cap) v25 K:=by
 have s:∀k,dS (cF A {Y with dJ:=dJ,cL:=cL,fM:=Y.fM++[cp],gF:=Y.gF++[tp]} k):=λk=>cF.loc k;refine aG (LP (Y:={Y with dJ:=dJ,cL:=cL,fM:=Y.fM++[cp],gF:=Y.gF++[tp]}) s h (i:=5) (by simp[nQ]) λz m w=>aG (LP (Y:={Y with dJ:=dJ,cL:=cL,fM:=Y.fM++[cp],gF:=Y.gF++[tp]}) s w (i:=6) (by simp[nQ]) λy g u=>?_));have r:=(fC.loc (c:=c) (ps:=ps) (ss:=ss) (p:=cp)).bU ((fC.loc (c:=c) (ps:=ps) (ss:=ss) (p:=cp)).bU hC m λb _ d e=>d1 b d e) g λb _ d e=>d1 b d e;have j:=(iT.loc (p:=tp) (batch:=c.batch) (room:=A.room) (t:=t)).bU ((iT.loc (p:=tp) (batch:=c.batch) (room:=A.room) (t:=t)).bU hTf m λb _ d e=>d2 b d e) g λb _ d e=>d2 b d e;have x:=Φ (cp:=cp) (tp:=tp) u hlc hlt (by simp only;rw[zp O,hpos.1,tB];rfl) (by simp only;rw[zp O,hpos.2,tB];rfl) hc r j d1 d2 d3;exact hK y {Y with dJ:=dJ,cL:=cL,fM:=Y.fM++[cp],gF:=Y.gF++[tp]} (m.trans g) rfl rfl (by simp[hpos.1]) (by simp[hpos.2]) x
theorem uU {cs:List Value}{σ':Hp}(hT:∀k,dS (T k))(h:Sep (gP A Y T cs) σ F)(e:bO σ σ'):Sep (gP A Y T cs) σ' F:=(Sep.loc (gP.loc hT)).bK h e
theorem Jc {cs:List Value}(hT:∀k,dS (T k))(h:Sep (gP A Y T cs) σ F):Sep (gP A Y T cs) σ (Cut F σ):=(Sep.loc (gP.loc hT)).cut h
theorem Rh (n room:Nat)(tb:List bY)(i:Nat):({lC n room tb i with cB:=(lC n room tb i).cB++[[]],cE:=(lC n room tb i).cE++[⟨0,[]⟩]}:AR)=lC n room tb (i+1):=by
 unfold lC;simp only[←DV]
theorem Wkr (n room:Nat)(tb:List bY):lC n room tb tb.length=fD n room tb:=rfl
theorem Sj {i cp tp:Nat}{c:bY}{ss:List cH}{t:fT}{ps:List (Nat×Nat)}{Gc Gt:Rg}{z:Nat}(hF:∀b,F b->z<=b/\b<σ.size)(hpos:Y.fM.length=i/\Y.gF.length=i)(hi:i<40)
 (h:Sep (gP A Y (cF A Y) (nQ Y)) σ F) (hlc:A.cB.length=i) (hlt:A.cE.length=i) (hc:A.tb[i]?=some c) (hC:fC σ Gc cp c ps ss) (hTf:iT σ Gt tp c.batch A.room t) (d1:∀b,Gc b->¬F b/\z<=b/\b<σ.size) (d2:∀b,Gt b->¬F b/\z<=b/\b<σ.size) (d3:∀b,Gc b->¬Gt b) {J4:aP}
 (hK:∀σ' Y',Ext F σ σ'->Y'.p=Y.p->Y'.hs=Y.hs->Y'.fM.length=i+1->Y'.gF.length=i+1->Sep (gP {A with cB:=A.cB++[ss],cE:=A.cE++[t]} Y' (cF {A with cB:=A.cB++[ss],cE:=A.cE++[t]} Y') (nQ Y')) σ' (λb=>z<=b)->J4 σ') :
 dT σ λS=>bQ (some ⟨Y.p,0,none⟩) λa80=>gW S .s (a80.add 5) λ(t82:Sl)=>bQ (some ⟨Y.p,0,none⟩) λa87=>gW S .s (a87.add 6) λ(t89:Sl)=>
  (Nw (.cells #[.pointer (some ⟨cp,0,none⟩)] 178 (0,0)) σ λn84 v21=>And (S v21) <|
   (App t82 1 8 178 [.pointer none] ⟨some n84,1,1⟩ v21 λt85 v22=>And (S v22)<|Nw (.cells #[.pointer (some ⟨tp,0,none⟩)] 180 (0,0)) v22 λn91 v23=>And (S v23)<|App t89 1 8 180 [.pointer none] ⟨some n91,1,1⟩ v23 λt92 v24=>And (S v24) <|
   bQ (some ⟨Y.p,0,none⟩) λa93=>cY (a93.add 5) (.slice t85.a t85.len t85.cap) v24 λv25=>bQ (some ⟨Y.p,0,none⟩) λa95=>cY (a95.add 6) (.slice t92.a t92.len t92.cap) v25 λv26=>J4 v26) ∧
   (Nw (.cells #[.pointer (some ⟨tp,0,none⟩)] 180 (0,0)) v21 λn911 v27=>And (S v27)<|App t82 1 8 178 [.pointer none] ⟨some n84,1,1⟩ v27 λt851 v28=>And (S v28)<|App t89 1 8 180 [.pointer none] ⟨some n911,1,1⟩ v28 λt921 v29=>And (S v29) <|
   bQ (some ⟨Y.p,0,none⟩) λa931=>cY (a931.add 5) (.slice t851.a t851.len t851.cap) v29 λv30=>bQ (some ⟨Y.p,0,none⟩) λa951=>cY (a951.add 6) (.slice t921.a t921.len t921.cap) v30 λv31=>J4 v31)) ∧
  (Nw (.cells #[.pointer (some ⟨tp,0,none⟩)] 180 (0,0)) σ λn912 v32=>And (S v32)<|Nw (.cells #[.pointer (some ⟨cp,0,none⟩)] 178 (0,0)) v32 λn841 v33=>And (S v33) <|
  App t82 1 8 178 [.pointer none] ⟨some n841,1,1⟩ v33 λt852 v34=>And (S v34)<|App t89 1 8 180 [.pointer none] ⟨some n912,1,1⟩ v34 λt922 v35=>And (S v35) <|
  bQ (some ⟨Y.p,0,none⟩) λa932=>cY (a932.add 5) (.slice t852.a t852.len t852.cap) v35 λv36=>bQ (some ⟨Y.p,0,none⟩) λa952=>cY (a952.add 6) (.slice t922.a t922.len t922.cap) v36 λv37=>J4 v37):=by
 have E:∀k,dS (cF A Y k):=λk=>cF.loc k;have M:=fC.loc (c:=c) (ps:=ps) (ss:=ss) (p:=cp);have K:=iT.loc (p:=tp) (batch:=c.batch) (room:=A.room) (t:=t);refine⟨λm=>bX m Y.p (nQ Y),(qH h).1,aG ⟨Y.dJ,λm hm=>by rw[add_lit,hm.cell];rfl,aG ⟨Y.cL,λm hm=>by rw[add_lit,hm.cell];rfl,?_⟩⟩⟩;have D:∀(w:Hp) (F1:Rg) (b1 b2:Nat),bO σ w->(∀b,F1 b->F b)->Sep (gP A Y (cF A Y) (nQ Y)) w F1->bX w b1 [.pointer (some ⟨cp,0,none⟩)]->bX w b2 [.pointer (some ⟨tp,0,none⟩)]->σ.size<=b1->σ.size<=b2 →
  App Y.dJ 1 8 178 [.pointer none] ⟨some ⟨b1,0,none⟩,1,1⟩ w λt85 v28=>And (bX v28 Y.p (nQ Y))<|App Y.cL 1 8 180 [.pointer none] ⟨some ⟨b2,0,none⟩,1,1⟩ v28 λt92 v29=>And (bX v29 Y.p (nQ Y)) <|
   bQ (some ⟨Y.p,0,none⟩) λa93=>cY (a93.add 5) (.slice t85.a t85.len t85.cap) v29 λv30=>bQ (some ⟨Y.p,0,none⟩) λa95=>cY (a95.add 6) (.slice t92.a t92.len t92.cap) v30 λv31=>J4 v31:=by
  intro w F1 b1 b2 ew hF1 hw hb1 hb2 hz1 hz2;have B:∀b,F1 b->z<=b/\b<σ.size:=λb d=>hF b (hF1 b d);have hsw:=ew.1;refine N7 E hw O O hb1 (λg=>by have:=B _ g;omega) λs1 v28 J aa=>?_;have P:=(qH aa).1;have ae:Sep (gP A {Y with dJ:=s1,fM:=Y.fM++[cp]} (cF A {Y with dJ:=s1,fM:=Y.fM++[cp]}) (nQ Y)) v28 (Grow F1 w):=aa;refine⟨P,?_⟩;have c28:Sep (gP A {Y with dJ:=s1,fM:=Y.fM++[cp]} (cF A {Y with dJ:=s1,fM:=Y.fM++[cp]}) (nQ Y)) v28 (λb=>F1 b\/w.size<=b):=ae;have R:=J.bV hb2 λg=>by have:=B _ g;omega
  have hb2lt:=hb2.lt;refine Ns c28 aC aC R (λg=>by
   rcases g with g|g
   ·have:=B _ g;omega
   ·omega) λs2 v29 e29 V=>?_
  refine⟨(qH V).1,?_⟩;have H:∀b,(F1 b\/w.size<=b)->F b\/σ.size<=b:=λb d=>by
   rcases d with d|d
   ·exact .inl (hF1 b d)
   ·exact .inr O
  have j:Ext F σ v29:=((bO.to ew).trans (J.sub hF1)).fH e29 H;have ac:=M.bU hC j λb _ d g=>(d1 b d).1 g;have ad:=K.bU hTf j λb _ d g=>(d2 b d).1 g;have hs28:=J.1;refine LM (F:=Grow (λb=>F1 b\/w.size<=b) v28) hpos V hlc hlt hc ac ad (λb d g=>?_) (λb d g=>?_) d3 λw2 Y' e2 p1 p2 p3 p4 h2=>?_
  ·have:=d1 b d;rcases g with(g|g)|g
   ·exact this.1 (hF1 b g)
   ·omega
   ·omega
  ·have:=d2 b d;rcases g with(g|g)|g
   ·exact this.1 (hF1 b g)
   ·omega
   ·omega
  ·refine hK w2 Y' (j.fH e2 λb d=>?_) p1 p2 p3 p4 ((Sep.loc (gP.loc (λk=>cF.loc k))).mono h2 λb _ d=>?_)
   ·rcases d with(d|d)|d
    ·exact .inl (hF1 b d)
    ·exact .inr O
    ·exact .inr O
   ·have af:z<=σ.size:=by have:=(d1 _ hC.fp);omega
    rcases d with(((d|d)|d)|d)|d
    ·exact(B b d).1
    ·omega
    ·omega
    ·exact(d1 b d).2.1
    ·exact(d2 b d).2.1
 have S0:∀{w:Hp},bO σ w->bX w Y.p (nQ Y):=λe=>e.bV (qH h).1 id;refine⟨nw (cs:=[.pointer (some ⟨cp,0,none⟩)]) λv21 z21 u W=>⟨S0 u,?_,?_⟩,nw (cs:=[.pointer (some ⟨tp,0,none⟩)]) λv32 z32 x b32=>⟨S0 x,nw (cs:=[.pointer (some ⟨cp,0,none⟩)]) λv33 z33 y b33=>⟨S0 (Ext.trans x y),?_⟩⟩⟩
 ·-- row,box,row
  have h21:=uU E h u;refine N7 E h21 O O W (λg=>by have:=hF _ g;omega) λs1 v22 L X=>⟨(qH X).1,?_⟩;have N:Sep (gP A {Y with dJ:=s1,fM:=Y.fM++[cp]} (cF A {Y with dJ:=s1,fM:=Y.fM++[cp]}) (nQ Y)) v22 (Grow F v21):=X;have c22:=Jc (λk=>cF.loc k) N;refine nw (cs:=[.pointer (some ⟨tp,0,none⟩)]) λv23 z23 G b23=>?_;have Q:=uU (λk=>cF.loc k) c22 G;refine⟨(qH Q).1,Ns Q aC aC b23 (λg=>by have:=g.2;omega) λs2 v24 e24 ab=>⟨(qH ab).1,?_⟩⟩;have hs22:=L.1;have hs23:=G.1;have r:∀b,Cut (Grow F v21) v22 b->F b\/σ.size<=b:=λb d=>by
   rcases d.1 with h|h
   ·exact .inl h
   ·exact .inr O
  have j:Ext F σ v24:=((((bO.to u).trans L).pc G)).fH e24 r;have U:=M.bU hC j λb _ d g=>(d1 b d).1 g;have Z:=K.bU hTf j λb _ d g=>(d2 b d).1 g;refine LM (F:=Grow (Cut (Grow F v21) v22) v23) hpos ab hlc hlt hc U Z (λb d g=>?_) (λb d g=>?_) d3 λw2 Y' e2 p1 p2 p3 p4 h2=>?_
  ·have:=d1 b d;rcases g with g|g
   ·rcases g.1 with g|g
    ·exact this.1 g
    ·omega
   ·omega
  ·have:=d2 b d;rcases g with g|g
   ·rcases g.1 with g|g
    ·exact this.1 g
    ·omega
   ·omega
  ·refine hK w2 Y' (j.fH e2 λb d=>?_) p1 p2 p3 p4 ((Sep.loc (gP.loc (λk=>cF.loc k))).mono h2 λb _ d=>?_)
   ·rcases d with d|d
    ·exact r b d
    ·exact .inr O
   ·have af:z<=σ.size:=by have:=(d1 _ hC.fp);omega
    rcases d with((d|d)|d)|d
    ·rcases r b d with h|h
     ·exact(hF b h).1
     ·omega
    ·omega
    ·exact(d1 b d).2.1
    ·exact(d2 b d).2.1
 ·-- box,row,row
  refine nw (cs:=[.pointer (some ⟨tp,0,none⟩)]) λv27 z27 C ag=>⟨S0 (Ext.trans u C),?_⟩;exact D v27 F σ.size v21.size (Ext.trans u C) (λb d=>d) (uU E (uU E h u) C) (C.bV W id) ag (zD _) O
 ·exact D v33 F v32.size σ.size (Ext.trans x y) (λb d=>d) (uU E (uU E h x) y) b33 (y.bV b32 id) O (zD _)
theorem CQ {P:Hp->Rg->Prop}(hl:dS P){a:Nat}(h:P σ λb=>a<=b):P σ λb=>a<=b/\b<σ.size:=hl.mono h λb e d=>⟨d,e⟩
theorem S3 {n room:Nat}{tb:List bY}(h1:32<=n)(h2:n<=1024)(h3:n%16=0)(h4:room<=8)(h5:1<=tb.length)(h6:tb.length<=40)(h7:∀c∈tb,c.ok)(hc:Y.fM.length=tb.length)(ht:Y.gF.length=tb.length):eZ (fD n room tb) Y:=
 ⟨hc,ht,by simp[fD],by simp[fD],h5,h6,h1,h2,h3,by simp[fD],h4,h7⟩
theorem Wnz {s:Sl}{xs:List (Int×Int×Int)}(ha:gM σ s xs)(hS:dI σ H hs sp)(room:Int){R:Option Addr->Int->Hp->Prop}
 (h0:oM xs sp.st.length room≠0->∀σ',bO σ σ'->R none (oM xs sp.st.length room) σ')
 (h1:oM xs sp.st.length room=0->∀σ' Y,bO σ σ'->Y.hs=hs->cX σ' (λb=>σ.size<=b) Y (fD sp.st.length room.toNat (xs.map ZX)) (cF (fD sp.st.length room.toNat (xs.map ZX)) Y)->R (some ⟨Y.p,0,none⟩) 0 σ') :
 Ka.c s (some ⟨hs,0,none⟩) room σ R:=by
 refine Ka.o ?_;have hn2:sp.st.length<=1024:=by obtain⟨q,r,l,B,h⟩:=hS;exact h.n2
 refine H5 ha λv e=>?_;cases hv:Qo xs
 ·have e1:oM xs sp.st.length room=2:=by unfold oM;rw[hv];rfl
  have:=h0 (by rw[e1];decide) v e;rw[e1]at this;exact cJ rfl this
 have eE:oM xs sp.st.length room=if 32<=sp.st.length/\sp.st.length%16=0/\0<=room/\room<=8 then 0 else 1:=by unfold oM;rw[hv,zB rfl]
 refine cG rfl (EJ (hS.bK e) ?_);have C:¬(32<=sp.st.length/\sp.st.length%16=0/\0<=room/\room<=8)->R none 1 v:=λhn=>by
  rw[zA hn]at eE;have:=h0 (by rw[eE];decide) v e;rw[eE]at this;exact this
 have tm:(((sp.st.length:Nat):Int).tmod 16)=((sp.st.length%16:Nat):Int):=by rw[Kj O];simp
 refine bZ.intro (cI (λc1=>bZ.intro (cJ rfl (bZ.intro (cJ rfl (cJ rfl (C O)))))) λc1=>nz aB ?_);rw[tm,FG];refine bZ.intro (cU (λc2=>bZ.intro (cJ rfl (cJ rfl (C (λh=>by have:=h.2.1;simp[this]at c2))))) λc2=>?_);have c2':sp.st.length%16=0:=by simpa using c2
 refine bZ.intro (cI (λc3=>cJ rfl (C O)) λc3=>cI (λc4=>C O) λc4=>?_);obtain⟨V,rfl⟩:=zn (show 0<=room by omega);rw[zB O]at eE;have h1:=h1 eE;simp only[dE]at h1;have hva:=(Qx xs).1 hv;have P:=YP ha e;have hn1:32<=sp.st.length:=by omega
 generalize sp.st.length=n at *;have hlen:s.len=(xs.map ZX).length:=by rw[zX];exact ha.1
 have hcl:∀{σ':Hp} {i:Nat} {c:bY},gM σ' s xs->(xs.map ZX)[i]?=some c->xs[i]?=some ((c.size:Int),(c.aF:Int),(c.batch:Int))/\c.ok:=λh N=>UW h hv N;have J:1<=(xs.map ZX).length/\(xs.map ZX).length<=40:=by rw[zX];omega
 refine Uk P hv λdH v5 e5 htab=>Wn4 λW op e6 hop hP=>xo λA z7 e7 hm=>?_;generalize htbd:xs.map ZX=tb at *;refine nw (cs:=[.slice dH.a dH.len dH.cap,.pointer (some ⟨hs,0,none⟩),.pointer none,.pointer none,.pointer (some ⟨op,0,none⟩),.slice none 0 0,.slice none 0 0,.map (some W.size)]) λv8 z8 e8 b8=>?_;refine Go.Bu.xu _ (λg=>absurd ⟨O,O⟩ g) λn' hn' _ _ v9 sb ms e9 hB hfp=>?_;have hnn:n=n':=by omega
 subst hnn;have b9:=e9.bV b8 id;refine aG (b9.s1 aA λv10 fR b10=>PO O O c2' λQ tp tq M htp htq hTk=>aG ((M.bV b10 id).s1 aA λv12 S b12=>?_));have s5:=e5.1;have s6:=e6.1;have s9:=e9.1;have s10:=fR.1;have s11:=M.1;have s12:=S.1;have hb8:=b8.lt;have x9:Ext (· = A.size) v9 v12:=(fR.ext.trans (bO.to M)).trans S.ext;have x5:Ext (· = A.size) v5 v12:=(bO.to (Ext.trans (Ext.trans (Ext.trans e6 e7) e8) e9)).trans x9;have x6:Ext (· = A.size) W v12:=(bO.to (Ext.trans (Ext.trans e7 e8) e9)).trans x9;have x7:Ext (· = A.size) A v12:=(bO.to (Ext.trans e8 e9)).trans x9;have x11:Ext (· = A.size) Q v12:=S.ext;have p1:=aH.bU (CQ aH htab) x5 λb _ g d=>by omega
 have p2:=(kT.loc (p:=op) (ow:=λ_=>0)).bU (CQ kT.loc hP) x6 λb _ g d=>by omega
 have p3:dN v12 W.size .i64 bN []:=x7.gS (hm _ _) O;have p5:xe v8.size n Go.Bu.jB v12 (λb=>v8.size<=b/\b<v9.size):=(xe.loc _ _ _).bU (CQ (xe.loc _ _ _) ⟨sb,ms,hB,hfp⟩) x9 λb _ g d=>by omega
 have p6:qj tp (List.replicate n 0) v12 (λb=>v10.size<=b/\b<Q.size):=(qj.loc _ _).bU (CQ (qj.loc _ _) ⟨tq,hTk,htp,htq⟩) x11 λb _ g d=>by omega
 let Y0:Lay:={p:=A.size,hs:=hs,fr:=v8.size,tr:=tp,op:=op,rn:=W.size,dH:=dH,dJ:=⟨none,0,0⟩,cL:=⟨none,0,0⟩,fM:=[],gF:=[]}
 have b12':bX v12 A.size (nQ Y0):=b12
 let Cf:=gP (lC n V tb 0) Y0 (cF (lC n V tb 0) Y0) (nQ Y0)
 have u:∀i,dS (Cf i):=gP.loc λk=>cF.loc k;have q0:Sep (lN Cf S0) v12 λ_=>False:=lN.one S0 .hd λi U=>by
  cases i<;>first|exact U.elim|exact bS.nil _ _ _ _|exact trivial
 have q1:=lN.put u q0 .dH (G:=λb=>v.size<=b/\b<v5.size) (λb g d=>d) p1;have q2:=lN.put u q1 .own (G:=λb=>v5.size<=b/\b<W.size) (λb g d=>by
  rcases d with d|d
  ·exact d
  ·omega) p2
 have q3:=lN.put u q2 .runs (G:=λb=>b=W.size) (λb g d=>by
  rcases d with(d|d)|d
  ·exact d
  ·omega
  ·omega) ⟨rfl,p3⟩
 have q4:=lN.put u q3 .hd (G:=λb=>b=A.size) (λb g d=>by
  rcases d with((d|d)|d)|d
  ·exact d
  ·omega
  ·omega
  ·omega) ⟨rfl,b12'⟩
 have q5:=lN.put u q4 .free (G:=λb=>v8.size<=b/\b<v9.size) (λb g d=>by
  rcases d with(((d|d)|d)|d)|d
  ·exact d
  ·omega
  ·omega
  ·omega
  ·omega) p5
 have q6:=lN.put u q5 .p9 (G:=λb=>v10.size<=b/\b<Q.size) (λb g d=>by
  rcases d with((((d|d)|d)|d)|d)|d
  ·exact d
  ·omega
  ·omega
  ·omega
  ·omega
  ·omega) p6
 have q7:Sep Cf v12 λb=>v.size<=b:=by
  refine(Sep.loc u).mono (lN.all q6 λi=>?_) λb _ d=>?_
  ·cases i<;>simp[S0]
  ·rcases d with(((((d|d)|d)|d)|d)|d)|d
   ·exact d.elim
   ·omega
   ·omega
   ·omega
   ·omega
   ·omega
   ·omega
 have e12:bO v v12:=Ext.fresh e5 x5 λi U=>by omega
 have szv:=e.1;refine ZV (a:=bN) (λ(t:Int) w=>∃(i:Nat) (Y:Lay),t=(i:Int)/\i<=tb.length/\Y.p=A.size/\Y.hs=hs/\Y.fM.length=i/\Y.gF.length=i/\bO v w/\Sep (gP (lC n V tb i) Y (cF (lC n V tb i) Y) (nQ Y)) w (λb=>v.size<=b)) (λt _=>tb.length-t.toNat)
  ⟨0,Y0,rfl,O,rfl,rfl,rfl,rfl,e12,q7⟩ ?_
 rintro t w ⟨i,Y,rfl,U,ac,ad,af,X,ew,y⟩;refine cI (λhlt=>?_) λhge=>?_
 ·have hi':i<tb.length:=by omega
  have N:tb[i]?=some tb[i]:=cM hi';generalize tb[i]=c at N;have Z:=YP P ew;obtain⟨hxi,ab⟩:=hcl Z N;refine Hi Z hxi ?_;refine nw (cs:=[.int .i64 0,.int .i64 0,.int .i64 0]) λv14 hz14 e14 b14=>b14.s1 aA λv15 o15 b15=>b15.s1 aA λv16 o16 b16=>b16.s1 aA λv17 o17 b17=>?_;have L:bO w v17:=Ext.fresh (Ext.fresh (Ext.fresh e14 o15.ext λi U=>O) o16.ext λi U=>O) o17.ext λi U=>by omega
  have x:bX v17 w.size [.int .i64 (c.size:Int),.int .i64 (c.aF:Int),.int .i64 (c.batch:Int)]:=b17;refine x.rI rfl (x.rI rfl (x.rI rfl (WoI ab λv18 cp D hcp1 hcp2 hCe=>?_)));have b18:=D.bV x id;obtain⟨_,_,_,_,_,_,ae,aa⟩:=id ab;refine b18.rI rfl (R8 ae aa O λv19 tp2 E htp1 htp2 hTf=>Jn.intro ?_);have s14:=L.1;have s18:=D.1;have s19:=E.1;have sw:=ew.1;have hT:∀k,dS (cF (lC n V tb i) Y k):=λk=>cF.loc k;have h19:=uU hT (uU hT (uU hT (Jc hT y) L) D) E;have K:=hCe.bK E;rw[←ac];refine Sj (F:=Cut (λb=>v.size<=b) w) (z:=v.size) (ss:=[]) (t:=⟨0,[]⟩) (λb g=>⟨g.1,by have:=g.2;omega⟩) ⟨af,X⟩ O h19 (by simp[lC]) (by simp[lC]) N K hTf (λb g=>?_) (λb g=>?_) (λb g hb2=>O) λw2 Y' e2 y1 y2 y3 y4 h2=>?_
  ·subst g;exact⟨λd=>by have:=d.2;omega,O,O⟩
  ·subst g;exact⟨λd=>by have:=d.2;omega,O,O⟩
  ·rw[Rh]at h2;exact cA (m:=i+1) O O ⟨⟨i+1,Y',rfl,O,y1,y2.trans ad,y3,y4,Ext.fresh (Ext.trans (Ext.trans (Ext.trans ew L) D) E) e2 λb g=>g.1,h2⟩,O⟩
 ·have:i=tb.length:=by omega
  subst this;rw[Wkr,Pd]at y;have hl:eZ (fD n V tb) Y:=S3 hn1 hn2 c2' O J.1 J.2 (λc N=>by
   obtain⟨j,hj⟩:=zM N;exact(hcl P hj).2) af X
  have:=h1 w Y (Ext.trans e ew) ad ⟨hl,λk=>cF.loc k,(Sep.loc (AC.loc λk=>cF.loc k)).mono y λb _ g=>zJ szv g⟩;rw[ac]at this;exact this
end Go.Ar
namespace Go.Vc
open Go
variable {σ:Hp}{F:Rg}{s:Sl}{sz:Nat}{xs:List Value}
def dO (s:Sl)(sz:Nat)(xs:List Value):Hp->Rg->Prop:=λh F=>xs.length=s.len*sz/\(s.len=0/\s.cap=0\/∃b o cs,F b/\s.a=some ⟨b,o,none⟩/\bX h b cs/\s.len<=s.cap/\cs.length=o+s.cap*sz/\(cs.drop o).take xs.length=xs)
theorem dO.loc (s:Sl)(sz:Nat)(xs:List Value):dS (dO s sz xs):=λσ g F G h d a=>by
 refine⟨h.1,h.2.imp id ?_⟩;rintro⟨b,o,cs,hq,ha,⟨e,he⟩,r⟩;have:=a b (bX.lt ⟨e,he⟩) hq;exact⟨b,o,cs,this.1,ha,⟨e,this.2.trans he⟩,r⟩
theorem dO.nil (h:Hp)(F:Rg)(sz:Nat)(a:Option Addr):dO ⟨a,0,0⟩ sz [] h F:=⟨by simp,.inl ⟨rfl,rfl⟩⟩
theorem bS.o (h:bS s sz xs σ F):dO s sz xs σ F:=⟨h.1,h.2.imp id λ⟨b,g,i,m,j,a,e,d⟩=>⟨b,0,g,i,m,j,a,O,by simpa using d⟩⟩
theorem dO.gE (h:dO s sz xs σ F):cT s sz xs σ F:=by
 refine⟨h.1,?_⟩;rcases h.2 with⟨hl,_⟩|⟨b,o,cs,hq,ha,hb,_,_,ht⟩
 ·left;have:=h.1;rw[hl]at this;simpa using this
 ·refine .inr ⟨b,o,cs,hq,ha,hb.q,λj a=>?_⟩;rw[←ht,zb,zq,zB a]
theorem dO.cap (h:dO s sz xs σ F):s.len<=s.cap:=by
 rcases h.2 with⟨q1,q2⟩|⟨_,_,_,_,_,_,q,_⟩
 ·omega
 ·exact q
theorem dO.app {x:Sl}{bytes e:Nat}{zs ys:List Value}{K:Sl->Hp->Prop}(ho:dO s sz xs σ F)(hz:zs.length=sz)
 (hy:ys.length=x.len*sz) (hr:Rd σ x.a ys) (h1:∀v∈ys,dP v=true) (hb:(s.len+x.len)*bytes<=2^46) (hc:s.len+x.len<=2^62)
 (hx:0<x.len) (hK:∀s' h',s'.len=s.len+x.len->Ext F σ h'->dO s' sz (xs++ys) h' (Grow F σ)->K s' h'):App s sz bytes e zs x σ K:=by
 refine⟨xs,ys,ho.1,hy,ho.gE.rd,hr,h1,hb,hc,λg=>?_,λr c m=>?_⟩
 ·rcases ho.2 with⟨hl,hcap⟩|⟨b,o,cs,hQ,ha,hk,hle,hcl,ht⟩
  ·omega
  ·rw[ha];simp only;rw[add_lit];have w:(s.len+x.len)*sz<=s.cap*sz:=pf _ g;rw[zc]at w;have d:=ho.1;refine Ul hk O λh' p i=>hK _ h' rfl (Ext.eR p hQ) ⟨?_,.inr ⟨b,o,_,.inl hQ,rfl,i,g,?_,?_⟩⟩
   ·simp[d,hy,zc]
   ·simp;omega
   ·rw[zK,d,zt];have u:(cs.take (o+s.len*sz)++ys++cs.drop (o+s.len*sz+ys.length)).drop o=(cs.drop o).take (s.len*sz)++(ys++cs.drop (o+s.len*sz+ys.length)):=by
     rw[mE,List.drop_append_of_le_length (by rw[zP];omega),List.drop_take]
     congr 2;omega
    have j:(cs.drop o).take (s.len*sz)=xs:=by rw[←d];exact ht
    rw[u,j,←mE,tT aE,qx aE]
 ·refine hK _ _ rfl (Ext.push _ _ _) ⟨by simp[ho.1,hy,zc],.inr ⟨σ.size,0,xs++ys++(List.replicate (c-(s.len+x.len)) zs).flatten,.inr (zD _),rfl,⟨e,by simp⟩,m,?_,?_⟩⟩
  ·simp only[zK,ye,wX,yp,ho.1,hy,hz,←zc];rw[zI];congr 1;omega
  ·rw[List.drop_zero,tT aA,qx aA]
theorem dO.Ij {x:Sl}{bytes e:Nat}{zs:List Value}{K:Sl->Hp->Prop}(ho:dO s sz xs σ F)(hx:x.len=0)(hb:s.len*bytes<=2^46)(hc:s.len<=2^62)(hK:dO ⟨s.a,s.len,s.cap⟩ sz xs σ F->K ⟨s.a,s.len,s.cap⟩ σ):App s sz bytes e zs x σ K:=by
 have d:=ho.cap;refine⟨xs,[],ho.1,by simp[hx],ho.gE.rd,by cases x.a<;>simp[Rd],by simp,by rw[hx];exact hb,O,λg=>?_,λb=>absurd O b⟩
 rw[hx];have:=hK ho;cases ha:s.a<;>(rw[ha]at this;exact this)
theorem dO.from (h:dO s sz xs σ F){lo:Nat}(h1:lo<=s.len):dO ⟨if s.cap=lo then s.a else s.a.map (·.add (lo*sz)),s.len-lo,s.cap-lo⟩ sz (xs.drop (lo*sz)) σ F:=by
 have d:=h.1;refine⟨by rw[zu,d,Nat.sub_mul],?_⟩;rcases h.2 with⟨q1,q2⟩|⟨b,o,cs,hq,ha,hb,hle,hcl,ht⟩
 ·left;simp only;omega
 ·by_cases hm:s.cap=lo
  ·left;simp only;omega
  ·refine .inr ⟨b,o+lo*sz,cs,hq,by simp only[zA hm,ha,zj,add_lit],hb,by simp only;omega,?_,?_⟩
   ·have:lo*sz<=s.cap*sz:=pf _ O;rw[hcl,Nat.sub_mul];omega
   ·rw[zu]
    conv=>rhs;rw[←ht]
    rw[List.drop_take,List.drop_drop]
end Go.Vc
namespace Go.Ar
open Go Go.Vc Go.Proofs
variable {σ:Hp}{F G:Rg}{Y:iE}{tb:List bY}{bud:Nat}{ls:List Li}{b k:Nat}{l:Li}{c:bY}
theorem PM {s:Sl}{xs:List (Int×Int×Int)}(ha:gM σ s xs)(dD:Int){R:Option Addr->Int->Hp->Prop}(h0:Qo xs=false->∀σ',bO σ σ'->R none 2 σ')
 (h1:Qo xs=true->¬(0<=dD/\dD<=65536)->∀σ',bO σ σ'->R none 1 σ')
 (h2:Qo xs=true->0<=dD->dD<=65536->∀σ' Y,bO σ σ'->eB σ' (λq=>σ.size<=q) Y (xs.map ZX) dD.toNat (List.replicate (xs.map ZX).length gT)->R (some ⟨Y.p,0,none⟩) 0 σ') :
 Kc.c s dD σ R:=by
 refine Kc.o ?_;refine H5 ha λv e=>?_;cases hv:Qo xs
 ·exact cJ rfl (h0 hv v e)
 refine cG rfl (bZ.intro (cI (λy=>cJ rfl (h1 hv O v e)) λy=>cI (λD=>h1 hv O v e) λD=>?_));have d:=YP ha e;have C:=(Qx xs).1 hv;refine Uk d hv λdH b w g=>xo λj J r F=>nw (cs:=[.slice dH.a dH.len dH.cap,.int .i64 dD,.map (some b.size)]) λv3 H m E=>?_;have s1:=w.1;have s0:=e.1;refine h2 hv O O v3 ⟨j.size,b.size,dH,[]⟩ (((e.trans w).trans r).trans m) ⟨by rw[zX];omega,λc x=>?_,by simp,by simp,?_⟩
 ·obtain⟨i,A⟩:=zM x;exact(UW d hv A).2
 ·refine⟨λq=>if q=j.size then .hd else if q=b.size then .mp else .dH,λi=>?_⟩
  cases i with
  | hd=>
   refine⟨⟨by show σ.size<=j.size;omega,by simp⟩,?_⟩;have:((dD.toNat:Nat):Int)=dD:=by omega
   simp only[FB,this];exact E
  | mp=>
   refine⟨⟨by show σ.size<=b.size;omega,?_⟩,m.gS (F .i64 .p) id⟩;show(if b.size=j.size then xg.hd else if b.size=b.size then xg.mp else xg.dH)=.mp
   rw[zA O,zB rfl]
  | dH=>
   have z:=aH.bK (aH.bK (aH.mono g (G:=λq=>v.size<=q/\q<b.size) λq u B=>⟨B,u⟩) r) m;refine aH.mono z λq _ u=>⟨O,?_⟩;show(if q=j.size then xg.hd else if q=b.size then xg.mp else xg.dH)=.dH
   rw[zA O,zA O]
  | li k=>
   simp only[CC,s7,kK,List.find?_nil,Option.map_none];cases hk:(List.replicate (xs.map ZX).length gT)[k]? with
   | none=>trivial
   | some l=>simp only[qy]at hk;split at hk<;>simp_all
def nL (f:Nat->Nat)(l:List (Int×Option Addr)):Nat:=(l.map λx=>f x.1.toNat).sum
theorem JK (f:Nat->Nat):∀{l:List (Int×Option Addr)} {n:Int} {x:Option Addr},(l.map (·.1)).Nodup->(n,x)∈l->nL f l=f n.toNat+nL f (l.filter λy=>!(y.1==n))
 | [],_,_,_,h=>by simp at h
 | y::l,n,x,hn,h=>by
  simp only[zH,zr]at hn;rcases zR.1 h with h1|h1
  ·subst h1;have:l.filter (λy=>!(y.1==n))=l:=by
    rw[rp];intro z hz;have:z.1≠n:=λe=>hn.1 (zC.2 ⟨z,hz,e⟩);simpa using this
   rw[wH aA,this];simp[nL]
  ·have a:y.1≠n:=λe=>hn.1 (zC.2 ⟨_,h1,e.symm⟩);rw[wE (by simpa using a)];have:=JK f hn.2 h1;simp only[nL,zH,zS]at *;omega
theorem WmN (n a v:Nat):((List.range n).map λj=>if j=a then v else 0).sum=if a<n then v else 0:=by
 induction n with
 | zero=>simp
 | succ n ih=>
  rw[mD,zy,uv,ih];by_cases h:a=n
  ·subst h;simp
  ·by_cases h2:a<n
   ·rw[zB h2,zB O];simp[Ne.symm h]
   ·rw[zA h2,zA O];simp[Ne.symm h]
theorem WmR (l:List Nat)(f g:Nat->Nat):(l.map λj=>f j+g j).sum=(l.map f).sum+(l.map g).sum:=by
 induction l with
 | nil=>rfl
 | cons x l ih=>simp only[zH,zS,ih];omega
theorem N5 (f:Nat->Nat)(n:Nat):∀(ps:List (Nat×Nat)),(ps.map (·.1)).Nodup->(∀x∈ps,x.1<n)->(ps.map λx=>f x.1).sum=((List.range n).map λj=>if j∈ps.map (·.1)then f j else 0).sum
 | [],_,_=>by
  have:((List.range n).map λj=>if j∈([]:List (Nat×Nat)).map (·.1)then f j else 0)=(List.range n).map λ_=>0:=by simp
  rw[this]
  induction n with
  | zero=>rfl
  | succ n a=>rw[mD,zy,uv];simp at *;exact a
 | x::ps,hn,hl=>by
  simp only[zH,zr]at hn;have a:=N5 f n ps hn.2 λy b=>hl y (by simp[b]);rw[zH,zS,a];have e:((List.range n).map λj=>if j∈(x::ps).map (·.1)then f j else 0)=(List.range n).map λj=>(if j=x.1 then f x.1 else 0)+(if j∈ps.map (·.1)then f j else 0):=by
   apply ze;intro j _;by_cases hj:j=x.1
   ·subst hj;rw[zB aA,zB rfl,zA hn.1];rfl
   ·rw[zA hj,zI];by_cases hm:j∈ps.map (·.1)
    ·rw[zB hm,zB (by simp only[zH,zR];exact .inr hm)]
    ·rw[zA hm,zA (by simp only[zH,zR,not_or];exact⟨hj,hm⟩)]
  rw[e,WmR,WmN,zB (hl x aA)]
def uD (tb:List bY)(ls:List Li)(k:Nat):Nat:=match tb[k]?,ls[k]? with
 | some c,some l=>c.size*l.os.length
 | _,_=>0
theorem NH:∀(tb:List bY) (ls:List Li),ls.length=tb.length->Qm tb ls=((List.range tb.length).map (uD tb ls)).sum
 | [],[],_=>rfl
 | c::tb,l::ls,h=>by
  have ih:=NH tb ls (by simpa using h);simp only[Qm]at ih;simp only[Qm,F5,zH,zS,zN,ih,y6,zk];rfl
 | [],_::_,h=>by simp at h
 | _::_,[],h=>by simp at h
theorem eB.nil (h:eB σ F Y tb bud ls)(hf:kK Y.ps k=none)(hl:ls[k]?=some l):l=gT:=by
 obtain⟨G,_,a⟩:=h.sep.get (.li k);simp only[CC,s7,hf,hl]at a;exact a
theorem eB.AS (h:eB σ F Y tb bud ls):(Y.ps.map (·.1)).Nodup:=by
 have:=h.map.nodup;have e:(mB Y.ps).map (·.1)=(Y.ps.map (·.1)).map λ(n:Nat)=>(n:Int):=by simp[mB]
 rw[e]at this;exact List.Pairwise.of_map (λ(n:Nat)=>(n:Int)) (λa b d e=>d (by rw[e])) this
theorem eB.bytes (h:eB σ F Y tb bud ls):nL (uD tb ls) (mB Y.ps)=Qm tb ls:=by
 have d:nL (uD tb ls) (mB Y.ps)=(Y.ps.map λx=>uD tb ls x.1).sum:=by simp[nL,mB,Function.comp_def]
 rw[d,N5 _ tb.length _ h.AS h.keys,NH _ _ h.len]
 congr 1
 apply ze;intro j hj;have a:=zQ.1 hj;by_cases hm:j∈Y.ps.map (·.1)
 ·rw[zB hm]
 ·rw[zA hm];have i:kK Y.ps j=none:=by
   unfold kK;simp only[uN,se,zY];exact λx g e=>hm (zC.2 ⟨x,g,e⟩)
  have b:ls[j]?=some (ls[j]'(by rw[h.len];exact a)):=cM _;have:=h.nil i b;unfold uD;rw[cM a,b,this];rfl
theorem IZ:∀(tb:List bY) (ls:List Li),(∀c∈tb,c.ok)->(∀l∈ls,fW l)->Qm tb ls<=tb.length*131072
 | [],_,_,_=>by simp[Qm]
 | _::_,[],_,_=>by simp[Qm]
 | c::tb,l::ls,h1,h2=>by
  have ih:=IZ tb ls (λc a=>h1 c (by simp[a])) (λl d=>h2 l (by simp[d]));simp only[Qm]at ih;simp only[Qm,F5,zH,zS,zN];have a:=h1 c aA;unfold bY.ok at a;have b:=(h2 l aA).many;have e:c.size*l.os.length<=512*256:=nC O b;omega
theorem L1 (h:eB σ F Y tb bud ls)(hok:∀l∈ls,fW l):Qm tb ls<=5242880:=by
 have b:=IZ tb ls h.ok hok;have a:=h.qZ;omega
theorem eB.M6 (h:eB σ F Y tb bud ls):∀l∈ls,fW l:=by
 intro l hl;obtain⟨k,a⟩:=zM hl;cases hf:kK Y.ps k with
 | none=>rw[h.nil hf a];exact fW.nil
 | some b=>
  obtain⟨G,_,d,_⟩:=h.Af hf a;exact d.2.1
theorem E8 (h:eB σ F Y tb bud ls){R:aN}(hR:∀σ',bO σ σ'->R ((Qm tb ls:Nat):Int) σ'):Xu.c (aW Y.p) σ R:=by
 refine Xu.o ?_;have hle:=L1 h h.M6;have hT:=h.bytes;refine H4 h (cG rfl (aG (h.hd.rM rfl ?_)));refine xI (a:=bN) h.map (λg (z:Int) v=>∃n:Nat,z=(n:Int)/\n+nL (uD tb ls) g=Qm tb ls/\(∀e∈g,e∈mB Y.ps)/\(g.map (·.1)).Nodup/\bO σ v) ?_ ?_ ?_
 ·intro v hz e;exact⟨0,rfl,by rw[hT];omega,λe he=>he,h.map.nodup,e⟩
 ·rintro z v ⟨n,rfl,H,_,_,e⟩;simp only[nL,uB,List.sum_nil,zt]at H;rw[H];exact hR v e
 ·rintro g n x z v v' J ⟨m,rfl,H,j,w,e⟩ X ho Z hJ;have U:bO σ v':=e.only ho (.inr (zD _));have N:=h.bK U;have r:=j _ X;simp only[mB,zC,Prod.mk.injEq]at r;obtain⟨⟨k,b⟩,B,A,C⟩:=r;simp only at A C;subst A;subst C;have E:=h.keys _ B;simp only at E;have L:tb[k]?=some tb[k]:=cM E;have P:ls[k]?=some (ls[k]'(by rw[h.len];exact E)):=cM _;generalize tb[k]=c at L;generalize (ls[k]'(by rw[h.len];exact E))=l at P;have S:kK Y.ps k=some b:=Nr h.map.nodup B;obtain⟨G,hG,hL,_⟩:=N.Af S P;obtain⟨_,hok,s,Q,K,V⟩:=hL;have M:s.len=l.os.length:=by have:=K.1;simp[Wv]at this;omega
  have hb:uD tb ls k=c.size*l.os.length:=by unfold uD;rw[L,P]
  have u:=JK (uD tb ls) w X;simp only[dE]at u;refine aG (N.hd.rS rfl (ya N.lF L (d:=0) O ?_));simp only[zW];refine aG (Q.rS rfl ?_);have D:m+c.size*l.os.length+nL (uD tb ls) (List.filter (λy=>!(y.1==(k:Int))) g)=Qm tb ls:=by
   have W:=u;rw[hb]at W;rw[←H,W,ug]
  refine cA (m:=c.size*l.os.length) (by simp only[M];simp) O (cA (m:=m+c.size*l.os.length) O O (hJ _ v' rfl rfl ⟨_,rfl,D,λy hy=>j y (zF.1 hy).1,w.sublist (List.filter_sublist.map _),U⟩))
theorem SS (h:eB σ F Y tb bud ls){R:aO}(hR:∀σ',bO σ σ'->R (decide (bud<Qm tb ls)) σ'):Yo.c (aW Y.p) σ R:=by
 refine Yo.o ?_;have e:decide (((Qm tb ls:Nat):Int)>(bud:Int))=decide (bud<Qm tb ls):=by rw[decide_eq_decide];omega
 refine Jn.intro (H4 h (cJ rfl (aG ⟨E8 h λσ' a=>(a.bV h.hd id).rI rfl ?_,h.hd.rI rfl (E8 h λσ' a=>?_)⟩)))
 ·rw[e];exact hR σ' a
 ·rw[e];exact hR σ' a
def Ff (f:bY->Li->List Int×Li)(fn:Nat):Prop:=∀{σ:Hp} {G:Rg} {b:Nat} {l:Li} {c:bY},kC b l σ G->c.ok->∀{R:Sl->Hp->Prop},
 (∀s z σ',Ext (· = b) σ σ'->σ.size<=z->bS s 1 (Wv (f c l).1) σ' (λq=>σ.size<=q/\q<z)->kC b (f c l).2 σ' (λq=>q=b\/z<=q)->R s σ') →
 V2 Tryz.prog ⟨fn,#[],#[]⟩ [.pointer (some ⟨b,0,none⟩),.int .i64 (c.batch:Int)] [.one .s] σ R
theorem Ri:Ff ZZ 223:=by
 intro σ G b l c h hc R hR;refine Gm (all := #[.pointer (some ⟨b,0,none⟩),.int .i64 (c.batch:Int)]) (by kernel_rfl) aA ?_;refine YJ.o ?_;have i:=h;obtain⟨_,j,s,e,d,g⟩:=h;have a:s.len=l.os.length:=by have:=d.1;simp[Wv]at this;omega
 refine aG (e.rS rfl ?_);simp only[a];exact Gx i (zD _) hR
theorem χ:Ff KY 221:=by
 intro σ G b l c h hc R hR;refine Gm (all := #[.pointer (some ⟨b,0,none⟩),.int .i64 (c.batch:Int)]) (by kernel_rfl) aA ?_;refine XE.o ?_;have U:=h;obtain⟨_,g,s,y,N,K⟩:=h;have o1:=g.low;have o2:=g.many;have o3:=g.lim;have u:=Mm hc g;unfold bY.ok at hc;refine aG (y.rI rfl (cA (m:=l.low+1) O O (nz aB (cA (m:=(l.low+1)/2) (by rw[Yb O];omega) O ?_))));refine Gx U O λout z v e M S p=>?_;have J:=p;obtain⟨_,Q,s1,d,w,A⟩:=p;have r:s1.len=(gX ((l.low+1)/2) l).2.os.length:=by have:=w.1;simp[Wv]at this;omega
 refine Jn.intro ?_;have rest:∀(j:Hp) (lim:Nat),Ext (· = b) v j->lim=(if l.lim>c.batch then max (l.lim-c.batch) c.batch else l.lim)->bX j b (qM s1 {(gX ((l.low+1)/2) l).2 with lim:=lim}) →
  bQ (some ⟨b,0,none⟩) λD=>kG (D.add 0) j λC=>bQ (some ⟨b,0,none⟩) λF=>cY (F.add 2) (.int .i64 ((C.len:Nat):Int)) j λv2=>R out v2:=by
  intro j lim e1 hlim a;refine aG (a.rS rfl (aG (a.s1 (by simp[qM]) λv2 o2 x=>?_)));have E:=e1.trans o2.ext;have P:=d.lt;refine hR out z v2 (e.trans E) M (aI.bU S E λq _ H L=>?_) ?_
  ·have:=y.lt;omega
  ·refine⟨.inl rfl,u,s1,?_,aH.bU w E λq _ H L=>H.2 L,A⟩;simp only[r]at x;subst hlim;exact x
 refine aG (d.rI rfl ?_);refine cI (λB=>?_) λB=>?_
 ·have i:l.lim>c.batch:=by simp only[gX]at B;omega
  refine aG (d.rI rfl (cA (m:=l.lim-c.batch) (by simp only[gX];omega) O (aG (d.s1 (by simp[qM]) λj o1 a=>rest j (max (l.lim-c.batch) c.batch) o1.ext (by rw[zB i]) ?_))));have:(if(c.batch:Int)>((l.lim-c.batch:Nat):Int)then(c.batch:Int)else((l.lim-c.batch:Nat):Int))=((max (l.lim-c.batch) c.batch:Nat):Int):=by split<;>omega
  rw[this]at a;exact a
 ·have i:¬l.lim>c.batch:=by simp only[gX]at B;omega
  exact rest v l.lim (Ext.refl _ _) (by rw[zA i]) d
def sE (x:Nat×Sl):List Value:=[.int .i64 (x.1:Int),.slice x.2.a x.2.len x.2.cap]
def fN (l:List (Nat×Sl)):List Value:=l.flatMap sE
theorem KR (l:List (Nat×Sl)):(fN l).length=l.length*2:=by
 induction l with
 | nil=>rfl
 | cons x l ih=>
  have e:fN (x::l)=sE x++fN l:=rfl;have a:(sE x).length=2:=rfl;rw[e,zK,ih,a,zN];omega
theorem Hc (a b:List (Nat×Sl)):fN (a++b)=fN a++fN b:=by simp[fN]
theorem HL {l:List (Nat×Sl)}:∀v∈fN l,dP v=true:=by
 intro v hv;obtain⟨p,_,a⟩:=tv.1 hv;simp only[sE,zR,List.not_mem_nil,or_false]at a;rcases a with rfl|rfl<;>rfl
theorem Wli {l:List (Nat×Sl)}{i:Nat}{p:Nat×Sl}(h:l[i]?=some p){d:Nat}(hd:d<2):(fN l)[2*i+d]?=(sE p)[d]? := by
 induction l generalizing i with
 | nil=>simp at h
 | cons x l ih=>
  have e:fN (x::l)=sE x++fN l:=rfl;have a:(sE x).length=2:=rfl;rw[e];cases i with
  | zero=>
   simp at h;subst h;rw[zh O];congr 1;omega
  | succ i=>
   rw[zp O,a,show 2*(i+1)+d-2=2*i+d by omega];exact ih (by simpa using h)
def nW (ps:List (Nat×Sl))(bs:List Bt)(σ:Hp)(D:Rg):Prop:=ps.length=bs.length/\∀(i:Nat) p x,ps[i]?=some p->bs[i]?=some x->p.1=x.1/\cT p.2 1 (Wv x.2) σ D/\p.2.len<=p.2.cap
theorem nW.loc (ps:List (Nat×Sl))(bs:List Bt):dS (nW ps bs):=λσ g F G h d e=>⟨h.1,λi p x b a=>⟨(h.2 i p x b a).1,cT.loc _ _ _ _ _ _ _ (h.2 i p x b a).2.1 d e,(h.2 i p x b a).2.2⟩⟩
def yz (ps:List (Nat×Sl)):Prop:=ps.Pairwise λp q=>∀a a',p.2.a=some a->q.2.a=some a'->a.block≠a'.block
theorem yz.snoc {ps:List (Nat×Sl)}{bs:List Bt}{σ v:Hp}{D X:Rg}{s:Sl}{xs:List Int}(h:yz ps)(hB:nW ps bs σ D)(hne:∀x∈bs,x.2≠[])(hs:cT s 1 (Wv xs) v X)(hx:xs≠[])(hd:∀b,b<σ.size->D b->¬X b)(k:Nat):yz (ps++[(k,s)]):=by
 refine tZ.2 ⟨h,List.pairwise_singleton _ _,λp w q r=>?_⟩;rw[zZ]at r;subst r;intro a a' h1 h2 e;obtain⟨i,u⟩:=zM w;have d:=(cQ.1 u).1;have g:bs[i]?=some (bs[i]'(by rw[←hB.1];exact d)):=cM _;generalize (bs[i]'(by rw[←hB.1];exact d))=y at g;obtain⟨_,j,_⟩:=hB.2 i p y u g;have m:=j.bV (by simpa[Wv]using hne y (zE g)) ⟨a,h1,rfl⟩;have z:=hs.bV (by simpa[Wv]using hx) ⟨a',h2,rfl⟩;rw[e]at m;exact hd _ m.2 m.1 z.1
def iK (s:Sl)(bs:List Bt):Hp->Rg->Prop:=λσ F=>∃(ps:List (Nat×Sl)) (D:Rg),dO s 2 (fN ps) σ (λq=>F q/\¬D q)/\nW ps bs σ D/\(∀q,D q->F q)/\yz ps/\∀x∈bs,x.2≠[]
theorem iK.loc (s:Sl)(bs:List Bt):dS (iK s bs):=λσ r F G ⟨j,D,m,i,g,p⟩ e b=>
 ⟨j,λq=>D q/\q<σ.size,dO.loc _ _ _ _ _ _ _ m e λq a d=>⟨⟨(b q a d.1).1,λhd=>d.2 hd.1⟩,(b q a d.1).2⟩,nW.loc _ _ _ _ _ _ i e λq a hd=>⟨⟨hd,a⟩,(b q a (g q hd)).2⟩,λq a=>(b q a.2 (g q a.1)).1,p⟩
theorem iK.nil (σ:Hp)(F:Rg)(a:Option Addr):iK ⟨a,0,0⟩ [] σ F:=⟨[],λ_=>False,dO.nil _ _ _ _,⟨rfl,λi p x h=>by simp at h⟩,λq h=>h.elim,List.Pairwise.nil,by simp⟩
theorem iK.len {s:Sl}{bs:List Bt}(h:iK s bs σ F):s.len=bs.length:=by
 obtain⟨d,D,a,b,_⟩:=h;have:=a.1;rw[KR]at this;have:=b.1;omega
theorem iK.cap {s:Sl}{bs:List Bt}(h:iK s bs σ F):s.len<=s.cap:=by
 obtain⟨b,D,a,_⟩:=h;exact a.cap
def Gw:Prop:=∀{σ:Hp} {F:Rg} {s:Sl} {xs:List (Nat×Sl)},bS s 2 (fN xs) σ F->(∀x∈xs,x.1<64)->xs.length<=1000->∀{R:aP},
 (∀xs' σ',xs'.Perm xs->xs'.Pairwise (λa b=>a.1<=b.1)->Ext F σ σ'->bS s 2 (fN xs') σ' F->R σ')->Z2.c s ⟨262,#[],#[]⟩ σ R
theorem MU:∀{a b:List Nat},a.Pairwise (· < ·)->b.Pairwise (· < ·)->(∀x,x∈a↔x∈b)->a=b
 | [],[],_,_,_=>rfl
 | [],y::b,_,_,h=>by have:=(h y).2 aA;simp at this
 | x::a,[],_,_,h=>by have:=(h x).1 aA;simp at this
 | x::a,y::b,ha,hb,h=>by
  rw[pB]at ha hb;have e:x=y:=by
   rcases zR.1 ((h x).1 aA)with h1|h1
   ·exact h1
   ·rcases zR.1 ((h y).2 aA)with h2|h2
    ·exact h2.symm
    ·have:=ha.1 y h2;have:=hb.1 x h1;omega
  subst e
  congr 1
  refine MU ha.2 hb.2 λz=>?_;have d:=h z;simp only[zR]at d;constructor
  ·intro hza;have:=ha.1 z hza;rcases d.1 (.inr hza)with h1|h1
   ·omega
   ·exact h1
  ·intro hzb;have:=hb.1 z hzb;rcases d.2 (.inr hzb)with h1|h1
   ·omega
   ·exact h1
theorem HD {f:bY->Li->List Int×Li}{x:Bt}:x∈Ko f tb ls↔∃c l,tb[x.1]?=some c/\ls[x.1]?=some l/\x.2=(f c l).1/\x.2≠[]:=by
 unfold Ko;rw[BC];constructor
 ·rintro⟨k,hk,h⟩;split at h
  ·rename_i c l hc hl;split at h
   ·cases h
   ·rename_i hne;cases h;exact⟨c,l,hc,hl,rfl,hne⟩
  ·cases h
 ·rintro⟨c,l,hc,hl,e,hne⟩;refine⟨x.1,zQ.2 (cQ.1 hc).1,?_⟩;rw[hc,hl];simp only;rw[zA (by rw[←e];exact hne),←e]
theorem WhW {f:bY->Li->List Int×Li}:((Ko f tb ls).map (·.1)).Pairwise (· < ·):=by
 unfold Ko;have key:∀(n:Nat),(((List.range n).filterMap λk=>match tb[k]?,ls[k]? with
  | some c,some l=>if(f c l).1=[]then none else some ((k,(f c l).1):Bt)
  | _,_=>none).map (·.1)).Pairwise (· < ·)/\∀x∈((List.range n).filterMap λk=>match tb[k]?,ls[k]? with
  | some c,some l=>if(f c l).1=[]then none else some ((k,(f c l).1):Bt)
  | _,_=>none),x.1<n:=by
  intro n
  induction n with
  | zero=>simp
  | succ n ih=>
   rw[mD,yJ,zy];refine⟨tZ.2 ⟨ih.1,?_,?_⟩,?_⟩
   ·simp only[DK,List.filterMap_nil];split<;>simp
   ·intro a ha b hb;obtain⟨x,g,rfl⟩:=zC.1 ha;obtain⟨y,e,rfl⟩:=zC.1 hb;have j:=ih.2 x g;obtain⟨m,i,d⟩:=BC.1 e;clear e hb ha;simp only[zZ]at i;subst i;split at d
    ·split at d
     ·cases d
     ·cases d;exact j
    ·cases d
   ·intro x g;rcases zU.1 g with g|g
    ·have:=ih.2 x g;omega
    ·obtain⟨m,i,e⟩:=BC.1 g;simp only[zZ]at i;subst i;split at e
     ·split at e
      ·cases e
      ·cases e;omega
     ·cases e
 exact(key tb.length).1
def q8 (todo:List (Int×Option Addr))(k:Nat):Prop:=((k:Nat):Int)∈todo.map (·.1)
instance (todo:List (Int×Option Addr)) (k:Nat):Decidable (q8 todo k):=by unfold q8;infer_instance
theorem GL {todo:List (Int×Option Addr)}{m k:Nat}:q8 (todo.filter λy=>!(y.1==(m:Int))) k↔q8 todo k/\k≠m:=by
 unfold q8;simp only[zC,zF,pZ,qA];constructor
 ·rintro⟨y,⟨h1,h2⟩,h3⟩;exact⟨⟨y,h1,h3⟩,λe=>h2 O⟩
 ·rintro⟨⟨y,h1,h3⟩,h2⟩;exact⟨y,⟨h1,λe=>h2 O⟩,h3⟩
structure Cx (f:bY->Li->List Int×Li) (tb:List bY) (ls:List Li) (todo:List (Int×Option Addr)) (ls':List Li) (outs:List Bt):Prop where
 l:∀k c l,tb[k]?=some c->ls[k]?=some l->ls'[k]?=some (if q8 todo k then l else(f c l).2)
 n:(outs.map (·.1)).Nodup
 o:∀x:Bt,x∈outs↔∃c l,tb[x.1]?=some c/\ls[x.1]?=some l/\¬q8 todo x.1/\x.2=(f c l).1/\x.2≠[]
theorem Cx.step {f:bY->Li->List Int×Li}{todo:List (Int×Option Addr)}{ls':List Li}{outs:List Bt}(h:Cx f tb ls todo ls' outs)(hc:tb[k]?=some c)(hl:ls[k]?=some l)(hk:q8 todo k) :
 Cx f tb ls (todo.filter λy=>!(y.1==(k:Int))) (ls'.set k (f c l).2) (if(f c l).1=[]then outs else outs++[(k,(f c l).1)]):=by
 have z:=h.l k c l hc hl;have s:=(cQ.1 z).1;have A:∀x∈outs,x.1≠k:=λx g e=>by
  obtain⟨_,_,_,_,B,_⟩:=(h.o x).1 g;rw[e]at B;exact B hk
 refine⟨λj d m hd p=>?_,?_,λx=>?_⟩
 ·by_cases hj:j=k
  ·subst hj;rw[hc]at hd;cases hd;rw[hl]at p;cases p;rw[zO s,zA (by rw[GL];exact λg=>g.2 rfl)]
  ·rw[zm (Ne.symm hj),h.l j d m hd p]
   congr 1
   by_cases r:q8 todo j
   ·rw[zB r,zB (GL.2 ⟨r,hj⟩)]
   ·rw[zA r,zA λg=>r (GL.1 g).1]
 ·split
  ·exact h.n
  ·rw[zy,qQ];refine⟨h.n,by simp,λa E b C e=>?_⟩;simp only[zH,uB,zZ]at C;subst C;obtain⟨x,g,D⟩:=zC.1 E;exact A x g (D.trans e)
 ·have u:(∃d m,tb[x.1]?=some d/\ls[x.1]?=some m/\¬q8 (todo.filter λy=>!(y.1==(k:Int))) x.1/\x.2=(f d m).1/\x.2≠[])↔x∈outs\/(x=(k,(f c l).1)/\(f c l).1≠[]):=by
   constructor
   ·rintro⟨d,m,hd,p,r,e,i⟩;by_cases hj:x.1=k
    ·right;rw[hj]at hd p;rw[hc]at hd;cases hd;rw[hl]at p;cases p;exact⟨Prod.ext hj e,by rw[←e];exact i⟩
    ·left;exact(h.o x).2 ⟨d,m,hd,p,λg=>r (GL.2 ⟨g,hj⟩),e,i⟩
   ·rintro(g|⟨rfl,i⟩)
    ·obtain⟨d,m,hd,p,r,e,i⟩:=(h.o x).1 g;exact⟨d,m,hd,p,λw=>r (GL.1 w).1,e,i⟩
    ·exact⟨c,l,hc,hl,λw=>(GL.1 w).2 rfl,rfl,i⟩
  rw[u];split
  ·rename_i he;constructor
   ·exact .inl
   ·rintro(g|⟨_,i⟩)
    ·exact g
    ·exact absurd he i
  ·rename_i he;rw[zU,zZ];constructor
   ·rintro(g|g)
    ·exact .inl g
    ·exact .inr ⟨g,he⟩
   ·rintro(g|g)
    ·exact .inl g
    ·exact .inr g.1
set_option maxRecDepth 4000 in
theorem NS (hso:Gw){f:bY->Li->List Int×Li}{fn:Nat}(hf:Ff f fn)(hnil:∀c,c.ok->f c gT=([],gT))(h:eB σ F Y tb bud ls){R:Sl->Hp->Prop}
 (hR:∀σ' s (Q:Rg),Ext F σ σ'->(∀q,Q q->σ.size<=q)->eB σ' (λq=>Grow F σ q/\¬Q q) Y tb bud (Kl f tb ls)->iK s (Ko f tb ls) σ' Q->R s σ') :
 Xp.c (aW Y.p) ⟨fn,#[],#[]⟩ σ R:=by
 refine Xp.o ?_;refine H4 h (cG rfl (aG (h.hd.rM rfl ?_)));have htb:=h.qZ;refine xI (a:=.s) h.map (λC (out:Sl) v=>∃(ls':List Li) (w:List Bt) (Q D:Rg) (ps:List (Nat×Sl)),Ext F σ v/\(∀q,Q q->σ.size<q)/\eB v (λq=>(Cut F σ q\/σ.size<q)/\¬Q q) Y tb bud ls' ∧
  bS out 2 (fN ps) v (λq=>Q q/\¬D q)/\nW ps w v D/\(∀q,D q->Q q)/\Cx f tb ls C ls' w/\(∀e∈C,e∈mB Y.ps)/\(C.map (·.1)).Nodup/\yz ps) ?_ ?_ ?_
 ·intro v hz e;refine⟨ls,[],λ_=>False,λ_=>False,[],bO.to e,λq g=>g.elim,((eB.loc.bK h.cut e).mono λq _ g=>⟨.inl g,id⟩),bS.nil _ _ _ _,⟨rfl,λi p x K=>by simp at K⟩,λq g=>g.elim,⟨λk c l E N=>?_,by simp,λx=>?_⟩,λe P=>P,h.map.nodup,List.Pairwise.nil⟩
  ·by_cases Z:q8 (mB Y.ps) k
   ·rw[zB Z,N]
   ·rw[zA Z];have hf0:kK Y.ps k=none:=by
     unfold kK;simp only[uN,se,zY];exact λx r e=>Z (zC.2 ⟨((x.1:Int),some ⟨x.2,0,none⟩),zC.2 ⟨x,r,rfl⟩,by rw[e]⟩)
    have:=h.nil hf0 N;rw[N,this,hnil c (h.ok c (zE E))]
  ·simp only[List.not_mem_nil,false_iff];rintro⟨c,l,E,N,Z,e,hne⟩;have hf0:kK Y.ps x.1=none:=by
    unfold kK;simp only[uN,se,zY];exact λy V e=>Z (zC.2 ⟨((y.1:Int),some ⟨y.2,0,none⟩),zC.2 ⟨y,V,rfl⟩,by rw[e]⟩)
   have:=h.nil hf0 N;rw[this,hnil c (h.ok c (zE E))]at e;exact hne e
 ·rintro out v ⟨ls',w,Q,D,ps,e,hQ,hC,W,hB,hD,hI,_,_,S⟩;have hno:∀k,¬q8 [] k:=λk hk=>by simp[q8]at hk
  have hls:ls'=Kl f tb ls:=by
   apply lX;intro k;by_cases hk:k<tb.length
   ·have E:tb[k]?=some tb[k]:=cM hk;have N:ls[k]?=some (ls[k]'(by rw[h.len];exact hk)):=cM _;rw[hI.l k _ _ E N,zA (hno k)];simp[Kl,FQ,E,N]
   ·rw[za (by rw[hC.len];omega),za (by simp[Kl,h.len];omega)]
  subst hls;have hk1:∀(i:Nat) p,ps[i]?=some p->∃x,w[i]?=some x/\p.1=x.1/\cT p.2 1 (Wv x.2) v D/\p.2.len<=p.2.cap:=λi p K=>by
   have Z:=(cQ.1 K).1;have r:w[i]?=some (w[i]'(by rw[←hB.1];exact Z)):=cM _;exact⟨_,r,hB.2 i p _ K r⟩
  have B:ps.map (·.1)=w.map (·.1):=by
   apply lX;intro i;simp only[zi];cases K:ps[i]? with
   | none=>
    have:w[i]?=none:=by
     rw[List.getElem?_eq_none_iff]at K ⊢;rw[←hB.1];exact K
    rw[this];rfl
   | some p=>
    obtain⟨x,r,e1,_⟩:=hk1 i p K;rw[r];simp[e1]
  have X:∀x∈w,x.1<40:=λx r=>by
   obtain⟨c,l,E,_⟩:=(hI.o x).1 r;have:=(cQ.1 E).1;omega
  have hlen:ps.length<=40:=by
   have hn:=hI.n;rw[←B]at hn;have:=hn.length_le_of_subset (l₂:=List.range 40) λj S=>by
    rw[B]at S;obtain⟨x,r,rfl⟩:=zC.1 S;exact zQ.2 (X x r)
   simpa using this
  refine hso W (λp K=>?_) O λps' v' M hsort e' hrow'=>?_
  ·have:p.1∈w.map (·.1):=by rw[←B];exact zC.2 ⟨p,K,rfl⟩
   obtain⟨x,r,e1⟩:=zC.1 this;have:=X x r;omega
  ·have hnd:(ps'.map (·.1)).Nodup:=(M.map _).nodup_iff.2 (by rw[B];exact hI.n);have hinc:(ps'.map (·.1)).Pairwise (· < ·):=by
    refine List.Pairwise.map (R:=λa b:Nat×Sl=>a.1<b.1) _ (λa b hab=>hab) ?_;have A:ps'.Pairwise λa b=>a.1≠b.1:=py.1 hnd;exact(hsort.and A).imp λ{a b} hab=>by have:=hab.1;have:=hab.2;omega
   have hkk:ps'.map (·.1)=(Ko f tb ls).map (·.1):=by
    refine MU hinc WhW λj=>?_;rw[(M.map _).mem_iff,B];constructor
    ·intro S;obtain⟨x,r,rfl⟩:=zC.1 S;obtain⟨c,l,E,N,_,e1,e2⟩:=(hI.o x).1 r;exact zC.2 ⟨x,HD.2 ⟨c,l,E,N,e1,e2⟩,rfl⟩
    ·intro S;obtain⟨x,r,rfl⟩:=zC.1 S;obtain⟨c,l,E,N,e1,e2⟩:=HD.1 r;exact zC.2 ⟨x,(hI.o x).2 ⟨c,l,E,N,hno _,e1,e2⟩,rfl⟩
   have eQ:Ext F σ v':=e.fH e' λq g=>.inr (wg (hQ q g.1));refine hR v' out Q eQ (λq g=>wg (hQ q g)) ?_ ⟨ps',D,hrow'.o,⟨?_,λi p x K r=>?_⟩,hD,(M.pairwise_iff λ{a b} hab x y A h2 e=>hab y x h2 A e.symm).2 S,λx r=>by
    obtain⟨_,_,_,_,_,h2⟩:=HD.1 r;exact h2⟩
   ·refine(eB.loc.bU hC e' λq _ g hq2=>g.2 hq2.1).mono λq _ g=>⟨?_,g.2⟩;rcases g.1 with r|r
    ·exact .inl r.1
    ·exact .inr (wg r)
   ·have:=congrArg List.length hkk;simpa using this
   ·have e1:p.1=x.1:=by
     have:=congrArg (λl=>l[i]?) hkk;simp only[zi,K,r,zj,Option.some.injEq]at this;exact this
    obtain⟨j,S⟩:=zM (M.mem_iff.1 (zE K));obtain⟨y,V,e2,hs,hcap⟩:=hk1 j p S;have e3:x.2=y.2:=by
     obtain⟨c,l,E,N,_,A,_⟩:=(hI.o y).1 (zE V);obtain⟨c',l',hc',hl',h2,_⟩:=HD.1 (zE r);rw[←e1,e2,E]at hc';cases hc';rw[←e1,e2,N]at hl';cases hl';rw[A,h2]
    rw[e3];exact⟨e1,aH.bU hs e' λq _ g hq2=>hq2.2 g,hcap⟩
 ·rintro C n x out v v' J ⟨ls',w,Q,D,ps,e,hQ,hC,W,hB,hD,hI,hsub,hnd,S⟩ r ho hlt hJ;have e1:Ext F σ v':=e.only ho (.inr (zD _));have U:eB v' (λq=>(Cut F σ q\/σ.size<q)/\¬Q q) Y tb bud ls':=eB.loc.bU hC ho.ext λq _ g P=>by
   rcases g.1 with A|A
   ·have:=A.2;omega
   ·omega
  have hrow1:bS out 2 (fN ps) v' (λq=>(Q q/\¬D q)/\q<v'.size):=aI.cut (aI.bU W ho.ext λq _ g P=>by have:=hQ q g.1;omega);have hB1:nW ps w v' (λq=>D q/\q<v'.size):=(nW.loc _ _).cut ((nW.loc _ _).bU hB ho.ext λq _ g P=>by have:=hQ q (hD q g);omega);have hmem:=hsub _ r;simp only[mB,zC,Prod.mk.injEq]at hmem;obtain⟨⟨k,b⟩,hkb,hk1,hx1⟩:=hmem;simp only at hk1 hx1;subst hk1;subst hx1;have hk:=h.keys _ hkb;simp only at hk;have E:tb[k]?=some tb[k]:=cM hk;have N:ls[k]?=some (ls[k]'(by rw[h.len];exact hk)):=cM _;generalize tb[k]=c at E;generalize (ls[k]'(by rw[h.len];exact hk))=l at N;have hcok:=h.ok c (zE E);have hlk:kK Y.ps k=some b:=Nr h.map.nodup hkb;have hin:q8 C k:=zC.2 ⟨_,r,rfl⟩;have hl':ls'[k]?=some l:=by rw[hI.l k c l E N,zB hin]
  have L:=hI.step E N hin;have hmF:(λq=>(Cut F σ q\/σ.size<q)/\¬Q q) Y.m:=by
   obtain⟨H,hH,hm⟩:=U.sep.get .mp;exact hH _ hm.1
  obtain⟨G,hG,hL,hGm,hput⟩:=U.Af hlk hl';have hbF:=hG b hL.1;have hbm:b≠Y.m:=λe=>hGm (e▸hL.1);have hbs:b≠σ.size:=λe=>by
   subst e;rcases hbF.1 with A|A
   ·have:=A.2;omega
   ·omega
  have hblt:b<v'.size:=by obtain⟨_,_,s,hbk,_⟩:=hL;exact hbk.lt
  have hsz1:=ho.1;refine aG (U.hd.rS rfl (ya U.lF E (d:=2) O ?_));simp only[zA (show ¬(2=0) by omega),zA (show ¬(2=1) by omega)];refine hf hL hcok λs z v5 e5 hz hr hL5=>?_;have hs5:=e5.1;obtain⟨eF,h5⟩:=hput v5 _ (λq=>q=b\/z<=q) (e5.sub λq g=>by rw[g];exact hL.1) (λq g=>g.imp (λ(r:q=b)=>by rw[r];exact hL.1) λ(r:z<=q)=>O) hL5;have h5:=h5.cut;have eF5:Ext F σ v5:=e1.fH eF λq g=>by
   rcases g.1 with A|A
   ·exact .inl A.1
   ·exact .inr (wg A)
  have hnb:∀q,Q q->q≠b:=λq g hqb=>hbF.2 (hqb▸g);have hrow5:=aI.bU hrow1 e5 λq _ g P=>hnb q g.1.1 P;have hB5:=(nW.loc _ _).bU hB1 e5 λq _ g P=>hnb q (hD q g.1) P;have hsl:s.len=(f c l).1.length:=by have:=hr.1;simp[Wv]at this;omega
  have hsub':∀y∈C.filter (λy=>!(y.1==(k:Int))),y∈mB Y.ps:=λy V=>hsub y (zF.1 V).1;have hnd':((C.filter λy=>!(y.1==(k:Int))).map (·.1)).Nodup:=hnd.sublist (List.filter_sublist.map _);by_cases hemp:(f c l).1=[]
  ·rw[zB hemp]at L;refine fJ (by rw[hsl,hemp];simp) (hJ out v5 (e5.2 _ O λP=>hbs P.symm) (e5.2 _ U.map.lt λP=>hbm P.symm) ?_);refine⟨_,w,λq=>Q q/\q<v'.size,λq=>D q/\q<v'.size,ps,eF5,λq g=>hQ q g.1,h5.mono λq _ g=>?_,aI.mono hrow5 λq _ g=>⟨⟨g.1.1,g.2⟩,λhd=>g.1.2 hd.1⟩,hB5,λq g=>⟨hD q g.1,g.2⟩,L,hsub',hnd',S⟩;rcases g.1 with A|A|A
   ·exact⟨A.1.1,λr=>A.1.2 r.1⟩
   ·subst A;exact⟨hbF.1,λr=>hbF.2 r.1⟩
   ·exact⟨.inr O,λr=>O⟩
  ·rw[zA hemp]at L;have hpos:=uf.2 hemp;refine oK (by rw[hsl];omega) (nw (cs:=sE (k,s)) λv6 hz6 e6 hb6=>?_);have hrow6:=aI.bK hrow5 e6;have hB6:=(nW.loc _ _).bK hB5 e6;have hr6:=aI.bK (aI.cut hr) e6;have hpl:out.len=ps.length:=by have:=W.1;rw[KR]at this;omega
   have hol:ps.length<=40:=by
    have B:w.map (·.1)⊆List.range 40:=λj S=>by
     obtain⟨x,r,rfl⟩:=zC.1 S;obtain⟨c,l,E,_⟩:=(hI.o x).1 r;have:=(cQ.1 E).1;exact zQ.2 O
    have:=hI.n.length_le_of_subset B;rw[hB.1];simpa using this
   refine hrow6.app (ys:=sE (k,s)) rfl rfl ?_ (λv hv=>HL (l:=[(k,s)]) v (by simpa[fN]using hv)) ?_ ?_ qW λs' v7 hl7 e7 hr7=>?_
   ·intro j u hu;rw[add_lit,zI,hb6.cell];exact hu
   ·simp only;have:(out.len+1)*32<=41*32:=nC O O;omega
   ·simp only;omega
   have hs7:=e7.1;have e57:Ext (λq=>(Q q/\¬D q)/\q<v'.size) v5 v7:=(bO.to e6).trans e7;refine hJ s' v7 ?_ ?_ ?_
   ·rw[e57.2 _ O λr=>by have:=hQ _ r.1.1;omega];exact e5.2 _ O λP=>hbs P.symm
   ·rw[e57.2 _ (by have:=U.map.lt;omega) λr=>hmF.2 r.1.1];exact e5.2 _ U.map.lt λP=>hbm P.symm
   refine⟨_,_,λq=>Q q/\q<v'.size\/(v'.size<=q/\q<z)\/v5.size<=q,λq=>D q/\q<v'.size\/(v'.size<=q/\q<z)/\q<v5.size,ps++[(k,s)],eF5.fH e57 λq g=>.inr (wg (hQ q g.1.1)),λq g=>?_,(eB.loc.bU h5 e57 λq hq5 g r=>?_).mono λq _ g=>?_,?_,⟨?_,λi p y K V=>?_⟩,λq g=>?_,L,hsub',hnd',S.snoc hB1 (λx r=>by
    obtain⟨_,_,_,_,_,_,h2⟩:=(hI.o x).1 r;exact h2) hr.gE hemp (λb hb r V=>by have:=r.2;have:=V.1;omega) k⟩
   ·rcases g with g|g|g
    ·exact hQ q g.1
    ·omega
    ·omega
   ·rcases g.1 with A|A|A
    ·exact A.1.2 r.1.1
    ·exact hnb q r.1.1 A
    ·have:=r.2;omega
   ·have hq5:=g.2;rcases g.1 with A|A|A
    ·exact⟨A.1.1,λr=>by
      rcases r with r|r|r
      ·exact A.1.2 r.1
      ·have:=A.2.1;omega
      ·omega⟩
    ·subst A;exact⟨hbF.1,λr=>by
      rcases r with r|r|r
      ·exact hbF.2 r.1
      ·omega
      ·omega⟩
    ·exact⟨.inr O,λr=>by
      rcases r with r|r|r<;>omega⟩
   ·rw[Hc];have:fN [(k,s)]=sE (k,s):=by simp[fN]
    rw[this];refine aI.mono hr7 λq _ g=>?_;rcases g with g|g
    ·exact⟨.inl ⟨g.1.1,g.2⟩,λhd=>by
      rcases hd with hd|hd
      ·exact g.1.2 hd.1
      ·omega⟩
    ·exact⟨.inr (.inr O),λhd=>by
      rcases hd with hd|hd<;>omega⟩
   ·rw[zK,zK,hB.1];rfl
   ·rcases pA i ps.length with Z|Z
    ·rw[zh Z]at K;rw[zh (by rw[←hB.1];exact Z)]at V;obtain⟨a1,a2,a3⟩:=hB6.2 i p y K V;exact⟨a1,aH.mono (aH.bU a2 e7 λq _ g r=>r.1.2 g.1) λq _ g=>.inl g,a3⟩
    ·rw[zp Z]at K;rw[zp (by rw[←hB.1];exact Z)]at V;have hi0:i-ps.length=0:=by
      have:=(cQ.1 K).1;simp at this;omega
     rw[hi0]at K;rw[show i-w.length=0 by rw[←hB.1];exact hi0]at V;simp at K V;subst K;subst V;exact⟨rfl,aH.mono (aH.bU hr6.gE e7 λq _ g r=>by have:=r.2;have:=g.1;omega) λq _ g=>.inr g,bS.vw hr⟩
   ·rcases g with g|g
    ·exact .inl ⟨hD q g.1,g.2⟩
    ·exact .inr (.inl g.1)
theorem Wmb (hso:Gw)(h:eB σ F Y tb bud ls){R:Sl->Hp->Prop}
 (hR:∀σ' s (Q:Rg),Ext F σ σ'->(∀q,Q q->σ.size<=q)->eB σ' (λq=>Grow F σ q/\¬Q q) Y tb bud (Kl ZZ tb ls)->iK s (Ko ZZ tb ls) σ' Q->R s σ'):XT.c (aW Y.p) σ R:=by
 refine XT.o ?_;exact NS hso Ri (λc _=>Tf c) h hR
theorem PS (hso:Gw)(h:eB σ F Y tb bud ls){R:Sl->Hp->Prop}
 (hR:∀σ' s (Q:Rg),Ext F σ σ'->(∀q,Q q->σ.size<=q)->eB σ' (λq=>Grow F σ q/\¬Q q) Y tb bud (Kl KY tb ls)->iK s (Ko KY tb ls) σ' Q->R s σ'):Xa.c (aW Y.p) σ R:=by
 refine Xa.o ?_;exact NS hso χ R5 h hR
end Go.Ar
namespace Go.Proofs
open Go.Vc
set_option maxRecDepth 100000
def Zj.h:Hn:=.q .o1 (.q (.q .o3 .aK) (.q .o1 (.q (.q .o8 (.k (.loop [(3,.one .s),(16,.I)] (.q .o1 (.q (.c .l .l) (.q (.k (.q .o3 .fR)) .o2)))))) .aL)))
theorem Zj.o {a:R2}{b:Hp}{c:Sl->Hp->Prop}(d:WN.c a b λd e=>If (!d) (c ⟨none,0,0⟩ e) (bI a 9 e λg=>ZP.c g e λh i=>VX.c h i λj k=>Xb [.s,bN] (λl=>l ⟨none,0,0⟩ 0 k) λm (n:Sl) (o:Int) p=>If (o<((j.len:Nat):Int)) (Ix j.a j.len o 1 λq=>bM q p λr=>bQ a λs=>bB s 9 p λt=>Lk .i64 (.ag 4) t r p λu=>aV #[.I ((u.getD (0,0,0,0)).1),.I ((u.getD (0,0,0,0)).2.1),.I ((u.getD (0,0,0,0)).2.2.1),.I ((u.getD (0,0,0,0)).2.2.2)] 76 p λv w=>App n 4 32 76 [.I 0,.I 0,.I 0,.I 0] ⟨some v,1,1⟩ w λx y=>bL (o+1) λz=>m x z y) (c n p))):Zj.c a b c:=Wa Tryz.func31 (x:=Zj.h) (R0 d)
def YX.h:Hn:=.q .o1 (.q (.q .o3 .aK) (.q .o6 .l))
theorem YX.o {a:R2}{b:Hp}{c:Sl->Hp->Prop}(d:WN.c a b λd e=>If (!d) (c ⟨none,0,0⟩ e) (bE a 0 e λg=>Wc.c g e λh i=>c h i)):YX.c a b c:=Wa Tryz.func33 (x:=YX.h) (R0 d)
def Ww.h:Hn:=.q .o1 (.q (.q .o3 .aJ) (.q (.cV (.iH true [12] [(3,.one .ad)] (.tk [0,1,2,3,5,6,7,8] (.all [(4,.all [(9,.take 10 (.all [(11,.all [(12,.done)])])),(11,.all [(9,.take 10 (.all [(12,.done)]))])]),(11,.all [(4,.all [(9,.take 10 (.all [(12,.done)]))])])])))) (.q (.q .o5 (.k (.loop [] (.q (.cV (.seq [.it .i64 (.ag 4),.op])) (.q (.c .l .l) (.k (.q (.cV (.seq [.it .i64 (.ag 4),.op,.op,.op])) (.q .o3 (.c .o7 .l))))))))) (.q (.q .o6 (.k (.loop [(56,.I)] (.q .o1 (.q (.c .l .l) (.q (.k (.q .o4 (.q (.cV (.held true [7] (.tk [0,1,2,3] (.all [(4,.take 5 (.take 6 (.all [(7,.done)])))])))) (.q .o4 (.k (.loop [(70,.I)] (.q .o1 (.q (.c .l .l) (.q (.k (.q .o4 (.cV (.tail 17 (RI.ops 17) [.op])))) .o2))))))))) .o2)))))) (.q (.q .o6 (.k (.loop [(98,.I)] (.q .o1 (.q (.c .l .l) (.q (.k (.q .o3 (.q (.o 15) (.q (.o 18) (.o 19))))) .o2)))))) .aL)))))
theorem Ww.o {a:R2}{b:Hp}{c:Int->Int->Int->Int->Int->Int->Int->Int->Int->Int->Int->Hp->Prop}(d:aV #[.I 0,.I 0,.I 0,.I 0,.I 0,.I 0,.I 0,.I 0,.I 0,.I 0,.I 0] 89 b λd e=>WN.c a e λf g=>If (!f) (aR d 0 (.I 0) g λh=>aR d 1 (.I 0) h λi=>aR d 2 (.I 0) i λj=>aR d 3 (.I 0) j λk=>aR d 4 (.I 0) k λl=>aR d 5 (.I 0) l λm=>aR d 6 (.I 0) m λn=>aR d 7 (.I 0) n λo=>aR d 8 (.I 0) o λp=>aR d 9 (.I 0) p λq=>aR d 10 (.I 0) q λr=>aQ d 0 r λs=>aQ d 1 r λt=>aQ d 2 r λu=>aQ d 3 r λv=>aQ d 4 r λw=>aQ d 5 r λx=>aQ d 6 r λy=>aQ d 7 r λz=>aQ d 8 r λaa=>aQ d 9 r λab=>aQ d 10 r λac=>c s t u v w x y z aa ab ac r) (Jn [.ad] (λ(ad:Addr) ae=>bI a 9 ae λag=>wu .i64 (.ag 4) ag ae λah ai=>Xb [] (λaj=>aj ai) λak al=>wB .i64 (.ag 4) ah al (bE a 8 al λan=>Xb [bN] (λao=>ao 0 al) λap (aq:Int) ar=>If (aq<((an.len:Nat):Int)) (Ix an.a an.len aq 3 λau=>aY au 0 ar λav=>aX au 1 ar λaw=>bA au 2 ar λax=>aV #[.pointer none,.slice none 0 0,.nilIface] 128 ar λay az=>O1 ax <| aR ay 0 (.pointer av) az λa0=>aR ay 1 (.slice aw.a aw.len aw.cap) a0 λa1=>aR ay 2 (ax) a1 λa2=>dT a2 λa3=>aS a3 ad 1 λa4=>aU a3 ay 0 λa5=>Xu.c a5 a2 λa6 a7=>
 And (a3 a7) <| bL (a4+a6) λa8=>aR ad 1 (.I a8) a7 λa9=>aX ay 1 a9 λba=>Xb [bN] (λbb=>bb 0 a9) λbc (bd:Int) be=>If (bd<((ba.len:Nat):Int)) (Ix ba.a ba.len bd 2 λbf=>aQ bf 0 be λbg=>aX bf 1 be λbh=>aV #[.I 0,.slice none 0 0] 130 be λbi bj=>aR bi 0 (.I bg) bj λbk=>aR bi 1 (.slice bh.a bh.len bh.cap) bk λbl=>aQ ad 2 bl λbm=>aX bi 1 bl λbn=>bE a 0 bl λbp=>aQ bi 0 bl λbq=>Ix bp.a bp.len bq 3 λbr=>aQ br 0 bl λbs=>bL (((bn.len:Nat):Int)*bs) λbt=>bL (bm+bt) λbu=>aR ad 2 (.I bu) bl λbv=>bL (bd+1) λbw=>bc bw bv) (bL (aq+1) λbx=>ap bx be)) (bE a 7 ar λb0=>Xb [bN] (λb1=>b1 0 ar) λb2 (b3:Int) b4=>If (b3<((b0.len:Nat):Int)) (Ix b0.a b0.len b3 1 λb5=>fY b5 b4 λb6=>X9.c b6 b4 λb7 b8 b9 ca cb cc cd=>aQ ad 3 cd λce=>bL (ce+b7) λcf=>aQ ad 4 cd λcg=>bL (cg+b8) λch=>aQ ad 5 cd λci=>bL (ci+b9) λcj=>aR ad 3 (.I cf) cd λck=>aR ad 4 (.I ch) ck λcl=>aR ad 5 (.I cj) cl λcm=>aQ ad 7 cm λcn=>bL (cn+ca) λco=>aQ ad 6 cm λcp=>bL (cb*256) λcq=>bL (cp+cq) λcr=>aQ ad 8 cm λcs=>bL (cs+cc) λct=>aR ad 7 (.I co) cm λcu=>aR ad 6 (.I cr) cu λcv=>aR ad 8 (.I ct) cv λcw=>bL (b3+1) λcx=>b2 cx cw) (aQ ad 0 b4 λcy=>aQ ad 1 b4 λcz=>
 aQ ad 2 b4 λc0=>aQ ad 3 b4 λc1=>aQ ad 4 b4 λc2=>aQ ad 5 b4 λc3=>aQ ad 6 b4 λc4=>aQ ad 7 b4 λc5=>aQ ad 8 b4 λc6=>aQ ad 9 b4 λc7=>aQ ad 10 b4 λc8=>aR d 0 (.I cy) b4 λc9=>aR d 1 (.I cz) c9 λda=>aR d 2 (.I c0) da λdb=>aR d 3 (.I c1) db λdc=>aR d 4 (.I c2) dc λdd=>aR d 5 (.I c3) dd λde=>aR d 6 (.I c4) de λdf=>aR d 7 (.I c5) df λdg=>aR d 8 (.I c6) dg λdh=>aR d 9 (.I c7) dh λdi=>aR d 10 (.I c8) di λdj=>aQ d 0 dj λdk=>aQ d 1 dj λdl=>aQ d 2 dj λdm=>aQ d 3 dj λdn=>aQ d 4 dj λdp=>aQ d 5 dj λdq=>aQ d 6 dj λdr=>aQ d 7 dj λds=>aQ d 8 dj λdt=>aQ d 9 dj λdu=>aQ d 10 dj λdv=>c dk dl dm dn dp dq dr ds dt du dv dj))) (λdw dx dy=>wo .i64 (.ag 4) ah dy λdz d0=>aV #[.I 0,.I 0,.I 0,.I 0] 76 dy λd1 d2=>aR d1 0 (.I d0.1) d2 λd3=>aR d1 1 (.I d0.2.1) d3 λd4=>aR d1 2 (.I d0.2.2.1) d4 λd5=>aR d1 3 (.I d0.2.2.2) d5 λd6=>aQ d1 2 d6 λd7=>If (d7≥0) (aQ ad 0 d6 λd8=>aQ d1 1 d6 λd9=>bL (d8+d9) λea=>aR ad 0 (.I ea) d6 λeb=>ak eb) (ak d6))) λec=>dT g λed=>bQ a λee=>aU ed ee 6 λef=>bQ a λeg=>aU ed eg 6 λeh=>(XF.c ef g λei ej=>And (ed ej) <|
 (Xv.c eh ej λek el=>And (ed el) <| aV #[.I 0,.I 0,.I 0,.I 0,.I 0,.I 0,.I 0,.I 0,.I 0,.I 0,.I 0] 89 el λem en=>And (ed en) <| aR em 0 (.I 0) en λeo=>aR em 1 (.I 0) eo λep=>aR em 2 (.I 0) ep λeq=>aR em 3 (.I 0) eq λer=>aR em 4 (.I 0) er λes=>aR em 5 (.I 0) es λet=>aR em 6 (.I 0) et λeu=>aR em 7 (.I 0) eu λev=>aR em 8 (.I 0) ev λew=>aR em 9 (.I ei) ew λex=>aR em 10 (.I ek) ex λey=>ec em ey) ∧ (aV #[.I 0,.I 0,.I 0,.I 0,.I 0,.I 0,.I 0,.I 0,.I 0,.I 0,.I 0] 89 ej λez e0=>And (ed e0) <| Xv.c eh e0 λe1 e2=>And (ed e2) <| aR ez 0 (.I 0) e2 λe3=>aR ez 1 (.I 0) e3 λe4=>aR ez 2 (.I 0) e4 λe5=>aR ez 3 (.I 0) e5 λe6=>aR ez 4 (.I 0) e6 λe7=>aR ez 5 (.I 0) e7 λe8=>aR ez 6 (.I 0) e8 λe9=>aR ez 7 (.I 0) e9 λfa=>aR ez 8 (.I 0) fa λfb=>aR ez 9 (.I ei) fb λfc=>aR ez 10 (.I e1) fc λfd=>ec ez fd)) ∧ (aV #[.I 0,.I 0,.I 0,.I 0,.I 0,.I 0,.I 0,.I 0,.I 0,.I 0,.I 0] 89 g λfe ff=>And (ed ff) <| XF.c ef ff λfg fh=>And (ed fh) <| Xv.c eh fh λfi fj=>And (ed fj) <| aR fe 0 (.I 0) fj λfk=>aR fe 1 (.I 0) fk λfl=>aR fe 2 (.I 0) fl λfm=>aR fe 3 (.I 0) fm λfn=>aR fe 4 (.I 0) fn λfo=>aR fe 5 (.I 0) fo λfp=>aR fe 6 (.I 0) fp λfq=>aR fe 7 (.I 0) fq λfr=>aR fe 8 (.I 0) fr λfs=>aR fe 9 (.I fg) fs λft=>aR fe 10 (.I fi) ft λfu=>
 ec fe fu))):Ww.c a b c:=Wa Tryz.func36 (x:=Ww.h) (R0 d)
def Yn.h:Hn:=.q .o2 (.q .fR .l)
theorem Yn.o {a:R2}{b c d:Int}{e:Hp}{f:Int->Int->Hp->Prop}(g:XX.c a b 0 c d 0 e λg h i=>f g h i):Yn.c a b c d e f:=Wa Tryz.func52 (x:=Yn.h) (R0 g)
def Za.h:Hn:=.q .o1 (.q (.q .o3 .aJ) (.q .o5 .l))
theorem Za.o {a:R2}{b:Hp}{c:Int->Int->Int->Int->Int->Hp->Prop}(d:aV #[.I 0,.I 0,.I 0,.I 0,.I 0] 40 b λd e=>WN.c a e λf g=>If (!f) (aR d 0 (.I 0) g λh=>aR d 1 (.I 0) h λi=>aR d 2 (.I 0) i λj=>aR d 3 (.I 0) j λk=>aR d 4 (.I 0) k λl=>aQ d 0 l λm=>aQ d 1 l λn=>aQ d 2 l λo=>aQ d 3 l λp=>aQ d 4 l λq=>c m n o p q l) (bQ a λr=>bM ((r.add 1).add 0) g λs=>bM ((r.add 1).add 1) g λt=>bM ((r.add 1).add 2) g λu=>bM ((r.add 1).add 3) g λv=>bM ((r.add 1).add 4) g λw=>aR d 0 (.I s) g λx=>aR d 1 (.I t) x λy=>aR d 2 (.I u) y λz=>aR d 3 (.I v) z λaa=>aR d 4 (.I w) aa λab=>aQ d 0 ab λac=>aQ d 1 ab λad=>aQ d 2 ab λae=>aQ d 3 ab λaf=>aQ d 4 ab λag=>c ac ad ae af ag ab)):Za.c a b c:=Wa Tryz.func55 (x:=Za.h) (R0 d)
def Zo.h:Hn:=.q .o1 (.q .fR .aL)
theorem Zo.o {a:R2}{b c:Int}{d:Hp}{e:aN}(f:XX.c a b 1 0 0 c d λf g h=>e g h):Zo.c a b c d e:=Wa Tryz.func58 (x:=Zo.h) (R0 f)
def WN.h:Hn:=.q .o1 (.q (.cV (.seq [.op,.op,.op,.dB true 6 (RI.ops 6),.op])) .l)
theorem WN.o {a:R2}{b:Hp}{c:aO}(d:bZ (λd e=>c d e) λf=>If (!a.isNone) (bE a 8 b λh=>f (decide (((h.len:Nat):Int)>0)) b) (f false b)):WN.c a b c:=Wa Tryz.func65 (x:=WN.h) (R0 d)
def Yj.h:Hn:=.q .o2 (.q (.q .o2 .aK) (.q .o7 .l))
theorem Yj.o {a:R2}{b:Int}{c:Hp}{d:aN}(e:aV #[.I b] 3 c λe f=>bM e f λg=>If (g<0) (d (-1) f) (bQ a λh=>aX h 7 f λi=>Wk.c i ⟨112,#[],#[.pointer (some e)]⟩ f λj k=>d j k)):Yj.c a b c d:=Wa Tryz.func75 (x:=Yj.h) (R0 e)
def XX.h:Hn:=.q .o3 (.q (.q .o5 (.q .o2 (.c (.q .o3 .l) .l))) (.k (.loop [] (.k (.q (.o 11) (.q .o1 (.c (.q (.oq 6) .l) .l)))))))
theorem XX.o {a:R2}{b c d e f:Int}{g:Hp}{h:Int->Int->Hp->Prop}(i:aV #[.I c,.I d,.I e,.I f] 142 g λi j=>aQ i 0 j λk=>aQ i 1 j λl=>aQ i 2 j λm=>aQ i 3 j λn=>Yr.c a b k l m n j λo p=>If (o != 0) (h 0 o p) (Xb [] (λq=>q p) λr s=>Y8.c a b s λt u v w x=>aV #[.I 0,.I 0] 156 x λy z=>aR y 0 (.I u) z λaa=>aR y 1 (.I v) aa λab=>If t (aQ y 0 ab λac=>aQ y 1 ab λad=>h ac ad ab) (r ab))):XX.c a b c d e f g h:=Wa Tryz.func83 (x:=XX.h) (R0 i)
def Zs.h:Hn:=.q .o1 (.q (.q .o3 .aK) (.q .o5 .l))
theorem Zs.o {a:R2}{b:Hp}{c:Option Addr->Hp->Prop}(d:WN.c a b λd e=>If (!d) (c none e) (bF a 6 e λg=>c g e)):Zs.c a b c:=Wa Tryz.func84 (x:=Zs.h) (R0 d)
def KM.h:Hn:=.q .o3 (.q (.k (.q .o4 (.c .aL (.q .o4 .aJ)))) (.q (.cV (.iH true [] [(6,.one .p)] (.take 0 (.take 2 (.all [(1,.all [(3,.take 4 (.all [(5,.take 6 (.done))]))]),(3,.all [(1,.take 4 (.all [(5,.take 6 (.done))]))])]))))) (.q .fR (.q (.q .o3 (.k (.loop [(36,.I)] (.q .o1 (.q (.c .l .l) (.q (.k (.q (.cV (.held true [7] (.take 0 (.take 1 (.take 2 (.take 3 (.take 4 (.take 5 (.take 6 (.all [(7,.take 8 (.take 9 (.take 10 (.take 11 (.take 12 (.done))))))])))))))))) (.o 11))) .o2)))))) (.q (.q .o3 (.k (.loop [(62,.I)] (.q .o1 (.q (.c .l .l) (.q (.k (.q .o9 (.o 12))) .o2)))))) (.q .o3 .l))))))
theorem KM.o {a:Sl}{b c d e f:Int}{g:Hp}{h:Option Addr->Int->Hp->Prop}(i:aV #[.I b,.I c,.I d,.I e,.I f] 40 g λi j=>ZH.c a j λk l=>If (!k) (h none 2 l) (aQ i 0 l λm=>aQ i 1 l λn=>aQ i 2 l λo=>aQ i 3 l λp=>aQ i 4 l λq=>QH.c m n o p q l λr s=>If (!r) (h none 1 s) (Jn [.p] (λ(t:R2) u=>aQ i 0 u λv=>Q8.c v u λw x y=>bQ t λz=>aR z 6 (.pointer w) y λaa=>aQ i 1 aa λab=>Xb [bN] (λac=>ac 0 aa) λad (ae:Int) af=>If (ae<ab) (dT af λag=>bQ t λah=>aU ag ah 6 λai=>aS ag i 4 λaj=>Ka.c a ai aj af λak al am=>bE t 7 am λao=>aV #[.pointer ak] 131 am λap aq=>App ao 1 8 131 [.pointer none] ⟨some ap,1,1⟩ aq λar au=>bQ t λav=>aR av 7 (.slice ar.a ar.len ar.cap) au λaw=>bL (ae+1) λax=>ad ax aw) (aQ i 2 af λay=>Xb [bN] (λaz=>az 0 af) λa0 (a1:Int) a2=>If (a1<ay) (aQ i 3 a2 λa3=>Kc.c a a3 a2 λa4 a5 a6=>bE t 8 a6 λa8=>aV #[.pointer a4,.slice none 0 0,.nilIface] 128 a6 λa9 ba=>App a8 3 48 128 [.pointer none,.slice none 0 0,.nilIface] ⟨some a9,1,1⟩ ba λbb bc=>bQ t λbd=>aR bd 8 (.slice bb.a bb.len bb.cap) bc λbe=>bL (a1+1) λbf=>a0 bf be) (h t 0 a2))) λbg=>dT s λbh=>aS bh i 0 λbi=>aS bh i 1 λbj=>
 aS bh i 2 λbk=>aS bh i 3 λbl=>aS bh i 4 λbm=>(Wc.c a s λbn bo=>And (bh bo) <| Nw (.map #[] 0) bo λbp bq=>And (bh bq) <| aV #[.slice bn.a bn.len bn.cap,.I bi,.I bj,.I bk,.I bl,.I bm,.pointer none,.slice none 0 0,.slice none 0 0,.map (some bp.block)] 46 bq λbr bs=>And (bh bs) <| bg (some br) bs) ∧ (Nw (.map #[] 0) s λbt bu=>And (bh bu) <| Wc.c a bu λbv bw=>And (bh bw) <| aV #[.slice bv.a bv.len bv.cap,.I bi,.I bj,.I bk,.I bl,.I bm,.pointer none,.slice none 0 0,.slice none 0 0,.map (some bt.block)] 46 bw λbx bz=>And (bh bz) <| bg (some bx) bz)))):KM.c a b c d e f g h:=Wa Tryz.func92 (x:=KM.h) (R0 i)
def Zt.h:Hn:=.q .o1 (.q .o9 .aL)
theorem Zt.o {a:R2}{b:Int}{c:Hp}{d:aN}(e:XX.c a b 2 0 0 0 c λe f g=>d f g):Zt.c a b c d:=Wa Tryz.func96 (x:=Zt.h) (R0 e)
def Zr.h:Hn:=.q .o1 (.q .o6 .l)
theorem Zr.o {a:R2}{b c:Int}{d:Hp}{e:aN}(f:Zs.c a d λf g=>Yx.c f b c g λh i=>e h i):Zr.c a b c d e:=Wa Tryz.func97 (x:=Zr.h) (R0 f)
def Yr.h:Hn:=.q .o2 (.q (.k (.q .o4 (.c .aM (.q .o5 (.c .aM (.q .fR .aK)))))) (.q .o4 (.q (.q .o2 .aK) (.q .o9 .aM))))
theorem Yr.o {a:R2}{b c d e f:Int}{g:Hp}{h:aN}(i:aV #[.I c,.I d,.I e,.I f] 142 g λi j=>WN.c a j λk l=>If (!k) (h 5 l) (YU.c a b l λm n=>If (!m) (h 1 n) (bQ a λo=>aX o 8 n λp=>Ix p.a p.len b 3 λq=>bA q 2 n λr=>And (lH r) <| If (!(oU r)) (h 5 n) (aQ i 0 n λs=>aQ i 1 n λt=>aQ i 2 n λu=>aQ i 3 n λv=>YA.c a s t u v n λw x=>And (lH w) <| If (oU w) (h 1 x) (bE a 8 x λz=>Ix z.a z.len b 3 λaa=>And (lH w) <| aR aa 2 (w) x λab=>h 0 ab))))):Yr.c a b c d e f g h:=Wa Tryz.func98 (x:=Yr.h) (R0 i)
def Y8.h:Hn:=.q .o3 (.q (.k (.q .o4 (.c (.q .o4 .l) (.q .o5 (.c (.q .o4 .l) (.q .fR (.c (.q .o4 .l) .l))))))) (.q (.o 17) (.q .o9 (.q (.cV (.tail 4 (RI.ops 4) [.op,.op])) .l))))
theorem Y8.o {a:R2}{b:Int}{c:Hp}{d:Bool->Int->Int->Int->Hp->Prop}(e:aV #[.I 0,.I 0] 156 c λe f=>WN.c a f λg h=>If (!g) (aR e 0 (.I 0) h λi=>aR e 1 (.I 0) i λj=>aQ e 0 j λk=>aQ e 1 j λl=>d false k l 5 j) (YU.c a b h λm n=>If (!m) (aR e 0 (.I 0) n λo=>aR e 1 (.I 0) o λp=>aQ e 0 p λq=>aQ e 1 p λr=>d false q r 1 p) (bE a 8 n λt=>Ix t.a t.len b 3 λu=>bA u 2 n λv=>And (lH v) <| If (oU v) (aR e 0 (.I 0) n λw=>aR e 1 (.I 0) w λx=>aQ e 0 x λy=>aQ e 1 x λz=>d false y z 5 x) (bE a 8 n λab=>Ix ab.a ab.len b 3 λac=>bA ac 2 n λad=>Zy.c a b (ad) n λae af ag ah=>aV #[.I 0,.I 0] 156 ah λai aj=>aR ai 0 (.I af) aj λak=>aR ai 1 (.I ag) ak λal=>bE a 8 al λan=>Ix an.a an.len b 3 λao=>And (lH ae) <| aR ao 2 (ae) al λap=>And (lH ae) <| aQ ai 0 ap λaq=>aQ ai 1 ap λar=>aR e 0 (.I aq) ap λau=>aR e 1 (.I ar) au λav=>aQ e 0 av λaw=>aQ e 1 av λax=>d (oU ae) aw ax 0 av)))):Y8.c a b c d:=Wa Tryz.func99 (x:=Y8.h) (R0 e)
def YE.h:Hn:=.q .o2 (.q (.k (.q .o4 (.c .aL (.q .o3 .aJ)))) (.q .o1 (.q (.q .o6 (.k (.loop [(6,.I),(23,.I)] (.q .o1 (.q (.c .l .l) (.q (.k (.q .o3 (.q (.q .o3 (.c .l .l)) (.q .fR .o4)))) .o2)))))) (.q .o3 .l))))
theorem YE.o {a:R2}{b:Int}{c:Hp}{d:Int->Int->Hp->Prop}(e:WN.c a c λe f=>If (!e) (d 0 5 f) (If (b<0) (d 0 1 f) (bE a 7 f λh=>Xb [bN,bN] (λi=>i 0 0 f) λj (k:Int) (l:Int) m=>If (l<((h.len:Nat):Int)) (Ix h.a h.len l 1 λn=>fY n m λo=>If (k≥b) (d k 0 m) (bL (b-k) λp=>Xn.c o p m λq r s=>bL (k+q) λt=>bL (l+1) λu=>j t u s)) (d k 0 m)))):YE.c a b c d:=Wa Tryz.func100 (x:=YE.h) (R0 e)
def ZB.h:Hn:=.q .o1 (.q (.q .o3 .aK) (.q .o1 (.q (.q .o6 (.k (.loop [(3,.I),(14,.I)] (.q .o1 (.q (.c .l .l) (.q (.k (.q .o3 .o5)) .o2)))))) .aL)))
theorem ZB.o {a:R2}{b:Hp}{c:aN}(d:WN.c a b λd e=>If (!d) (c 0 e) (bE a 7 e λg=>Xb [bN,bN] (λh=>h 0 0 e) λi (j:Int) (k:Int) l=>If (k<((g.len:Nat):Int)) (Ix g.a g.len k 1 λm=>fY m l λn=>Yh.c n l λo p=>bL (j+o) λq=>bL (k+1) λr=>i q r p) (c j l))):ZB.c a b c:=Wa Tryz.func101 (x:=ZB.h) (R0 d)
def ZA.h:Hn:=.q (.q .o3 (.c .l .l)) (.q .o6 (.k (.loop [(12,.I)] (.q .o1 (.q (.c .l .l) (.q (.k (.q .o3 .o2)) .o2))))))
theorem ZA.o {a:R2}{b:Hp}{c:aP}(d:WN.c a b λd e=>If (!d) (c e) (bE a 7 e λg=>Xb [bN] (λh=>h 0 e) λi (j:Int) k=>If (j<((g.len:Nat):Int)) (Ix g.a g.len j 1 λl=>fY l k λm=>Y6.c m k λn=>bL (j+1) λo=>i o n) (c k))):ZA.c a b c:=Wa Tryz.func102 (x:=ZA.h) (R0 d)
def Zh.h:Hn:=.q .o1 (.q .o5 .l)
theorem Zh.o {a:R2}{b:Addr}{c:Hp}{d:aO}(e:bM b c λe=>Nz 256<|bL (e.tdiv 256) λf=>Zb.c a f c λg h=>d g h):Zh.c a b c d:=Wa Tryz.func112 (x:=Zh.h) (R0 e)
def QH.h:Hn:=.q .o2 (.q (.cV (.seq [.op,.op,.op,.op,.dB true 3 (RI.ops 3),.op,.dB true 4 (RI.ops 4),.op,.dB true 3 (RI.ops 3),.op,.dB true 3 (RI.ops 3),.op,.dB true 3 (RI.ops 3),.op,.dB true 3 (RI.ops 3),.op,.dB true 3 (RI.ops 3),.op,.dB true 3 (RI.ops 3),.op,.dB true 3 (RI.ops 3),.op,.dB true 3 (RI.ops 3),.op])) .l)
theorem QH.o {a b c d e:Int}{f:Hp}{g:aO}(h:aV #[.I a,.I b,.I c,.I d,.I e] 40 f λh i=>aQ h 0 i λj=>bZ (λk l=>bZ (λm n=>bZ (λo p=>bZ (λq r=>bZ (λs t=>bZ (λu v=>bZ (λw x=>bZ (λy z=>bZ (λaa ab=>bZ (λac ad=>g ac ad) λae=>If aa (aQ h 4 ab λaf=>ae (decide (af<=8)) ab) (ae false ab)) λag=>If y (aQ h 4 z λah=>ag (decide (ah≥0)) z) (ag false z)) λai=>If w (aQ h 3 x λaj=>ai (decide (aj<=65536)) x) (ai false x)) λak=>If u (aQ h 3 v λal=>ak (decide (al≥0)) v) (ak false v)) λam=>If s (aQ h 2 t λan=>am (decide (an<=4)) t) (am false t)) λao=>If q (aQ h 2 r λap=>ao (decide (ap≥1)) r) (ao false r)) λaq=>If o (aQ h 1 p λar=>aq (decide (ar<=4)) p) (aq false p)) λau=>If m (aQ h 1 n λav=>au (decide (av≥1)) n) (au false n)) λaw=>If k (aQ h 0 l λax=>Nz 16 <| aw ((ax.tmod 16)==0) l) (aw false l)) λay=>If (j≥32) (aQ h 0 i λaz=>ay (decide (az<=1024)) i) (ay false i)):QH.c a b c d e f g:=Wa Tryz.func123 (x:=QH.h) (R0 h)
def YU.h:Hn:=.q .o1 (.q (.cV (.seq [.op,.op,.op,.dB true 7 (RI.ops 7),.op])) .l)
theorem YU.o {a:R2}{b:Int}{c:Hp}{d:aO}(e:bZ (λe f=>d e f) λg=>If (b≥0) (bQ a λh=>aX h 8 c λi=>g (decide (b<((i.len:Nat):Int))) c) (g false c)):YU.c a b c d:=Wa Tryz.func131 (x:=YU.h) (R0 e)
def YA.h:Hn:=.q .o2 (.q (.q .o2 (.k (.q .o2 (.c (.q (.q (.cV (.seq [.op,.op,.op,.op,.dB false 3 (RI.ops 3)])) .aK) (.q (.cV (.held true [8] (.tk [0,1,2,3,4,5,6,7] (.all [(8,.tk [9,10,11,12,13] (.done))])))) (.q .o1 (.k (.q .o2 (.c (.q .o4 .l) (.q .o2 (.c (.q .o8 .l) .l)))))))) (.q .o2 (.c (.q .o5 .l) (.q .o2 (.c (.q .o3 .l) .l)))))))) .aM)
theorem YA.o {a:R2}{b c d e:Int}{f:Hp}{g:Value->Hp->Prop}(h:aV #[.I b,.I c,.I d,.I e] 142 f λh i=>aQ h 0 i λj=>If (j==0) (aQ h 1 i λk=>bZ (λl m=>If l (g (.nilIface) m) (dT m λn=>bQ a λo=>aT n o 0 λp=>aS n h 1 λq=>aS n h 2 λr=>Z3.c p q r m λs t u=>If (t==0) (g (.iface 260 (.agg #[.I s])) u) (If (t==4) (aQ h 1 u λv=>bL (v+256) λw=>bL (w-1) λx=>Nz 256<|bL (x.tdiv 256) λy=>g (.iface 262 (.agg #[.I y])) u) (g (.nilIface) u)))) λz=>If (k<1) (z true i) (aQ h 1 i λaa=>z (decide (aa>16384)) i)) (If (j==1) (aQ h 3 i λab=>g (.iface 264 (.agg #[.I ab])) i) (If (j==2) (g (.iface 266 (.agg #[])) i) (g (.nilIface) i)))):YA.c a b c d e f g:=Wa Tryz.func132 (x:=YA.h) (R0 h)
def Zy.h:Hn:=.q .o2 (.q .o7 (.q (.cV (.held true [] (.tk [0,1,2,3,4,5] (.all [(6,.take 7 (.all [(8,.take 9 (.done))]))])))) (.kX [] (.q .o1 (.k (.q .o3 (.c (.q .o2 (.q (.q (.cV (.held true [6] (.tk [0,1,2,3,4,5] (.all [(6,.tk [7,8,9,10,11] (.done))])))) (.q .o2 (.c (.q (.cV (.held true [17] (.tk [0,1,2,3,4,5,6,7,8,9,10,11,12] (.all [(13,.tk [14,15,16] (.all [(17,.done)]))])))) .l) .l))) (.q (.cV (.held true [6] (.tk [0,1,2,3,4,5] (.all [(6,.tk [7,8,9,10,11] (.done))])))) (.q .o8 .l)))) (.q .o3 (.c (.q .o2 (.kX [] (.q (.oq 12) (.c (.q .o9 (.q .o2 (.c (.q .o6 (.q .o5 .l)) .l))) .l)) (.q .o5 .l))) (.q .o3 (.c (.q .o2 (.q (.q (.o 11) (.q .o3 (.c (.q .o6 (.q .o5 .l)) .l))) (.q .o5 .l))) (.q .o3 (.c (.q .o2 (.q (.q .o5 (.q .o2 (.c (.q .o4 .l) .l))) (.q .o5 .l))) (.q .o3 (.c (.q .o2 (.q .o8 (.q .o4 (.q (.cV (.tail 9 (RI.ops 9) [.op])) (.q (.cV (.held true [20] (.tk [0,1,2,3,4,5,6,7,8,9,10,11,12,13,14,15] (.all [(16,.tk [17,18,19] (.all [(20,.done)]))])))) .l))))) (.q .o3 (.c (.q .o2 (.q .o9 (.q (.q .o2 (.c (.q .o4 .l) .l)) (.q (.o 11) .l)))) (.q .o3 (.c (.q .o2 (.q .o9 .l)) (.q .o3 (.c (.q .o2 (.kX [] (.q (.cV (.held true [8] (.tk [0,1,2,3,4,5,6,7] (.all [(8,.tk [9,10,11,12,13] (.done))])))) (.q .o3 (.c .o6 .l))) (.q .o9 (.kX [] (.q .o5 (.c (.cV (.held true [13] (.tk [0,1,2,3,4,5,6,7,8] (.all [(9,.all [(10,.take 11 (.take 12 (.all [(13,.done)])))])])))) .l)) (.q .o6 .l))))) (.q .o3 (.c (.q .o2 (.q .o8 (.q .fR (.q (.cV (.held true [5] (.take 0 (.take 1 (.take 2 (.take 4 (.all [(3,.all [(5,.done)])]))))))) (.q .o6 .l))))) (.q .o3 (.c (.q .o2 (.cV (.tail 10 (RI.ops 10) [.op]))) (.q .o3 (.c (.q .o2 (.q .o9 (.q .o6 .l))) .l)))))))))))))))))))))))) (.q .o3 .l))))
theorem Zy.o {a:R2}{b:Int}{c:Value}{d:Hp}{e:Value->Int->Int->Hp->Prop}(f:aV #[.I 0,.I 0] 156 d λf g=>bQ a λh=>aX h 8 g λi=>Ix i.a i.len b 3 λj=>dT g λk=>bQ a λl=>aT k l 7 λm=>ZI.c a b g λn o=>And (k o) <| Ix m.a m.len n 1 λp=>fY p o λq=>And (k o) <| Jn [] (λr=>aR f 0 (.I 0) r λs=>aR f 1 (.I 0) s λt=>aQ f 0 t λu=>aQ f 1 t λv=>e (.nilIface) u v t) λw=>∃t52:Int,∃is:Bool,nI c 260 [.I t52] [.I 0] is ∧ (If is (aV #[.I 0] 260 o λx y=>cY x (.I t52) y λz=>dT z λaa=>bQ (some j) λab=>aU aa ab 0 λac=>aS aa x 0 λad=>Yt.c ac ad z λae af ag=>If (af==0) (dT ag λah=>bQ a λai=>aT ah ai 0 λaj=>aS ah x 0 λak=>Ix aj.a aj.len ak 3 λal=>aS ah al 0 λam=>aS ah x 0 λan=>Y1.c a ae am an ag λao ap aq ar=>And (ah ar) <| aR f 0 (.I ap) ar λau=>aR f 1 (.I aq) au λav=>aQ f 0 av λaw=>aQ f 1 av λax=>e (ao) aw ax av) (dT ag λay=>bQ (some j) λaz=>aU ay az 0 λa0=>aS ay x 0 λa1=>Yp.c a0 a1 ag λa2 a3 a4=>aQ x 0 a4 λa5=>aR f 0 (.I 0) a4 λa6=>aR f 1 (.I 0) a6 λa7=>aQ f 0 a7 λa8=>aQ f 1 a7 λa9=>e (.iface 270 (.agg #[.I a5,.I a2])) a8 a9 a7)) (∃t99:Int,∃t991:Int,∃is1:Bool,nI c 270 [.I t99,.I t991] [.I 0,.I 0] is1 ∧
 (If is1 (aV #[.I 0,.I 0] 270 o λba bb=>aR ba 0 (.I t99) bb λbc=>aR ba 1 (.I t991) bc λbd=>Jn [] (λbe=>aQ ba 0 be λbf=>aQ ba 1 be λbg=>aR f 0 (.I 0) be λbh=>aR f 1 (.I 0) bh λbi=>aQ f 0 bi λbj=>aQ f 1 bi λbk=>e (.iface 275 (.agg #[.I bf,.I bg])) bj bk bi) λbl=>aQ ba 1 bd λbm=>bE a 0 bd λbo=>aQ ba 0 bd λbp=>Ix bo.a bo.len bp 3 λbq=>aQ bq 2 bd λbr=>If (bm==br) (aQ ba 0 bd λbs=>WB.c q bs bd λbt bu bv=>If (bu==0) (aQ ba 0 bv λbw=>YC.c a b bw bt bv λbx=>aR f 0 (.I 0) bx λbz=>aR f 1 (.I 0) bz λb0=>aQ f 0 b0 λb1=>aQ f 1 b0 λb2=>e (.iface 274 (.agg #[])) b1 b2 b0) (bl bv)) (bl bd)) (∃t135:Int,∃t1351:Int,∃is2:Bool,nI c 275 [.I t135,.I t1351] [.I 0,.I 0] is2 ∧ (If is2 (aV #[.I 0,.I 0] 275 o λb3 b4=>aR b3 0 (.I t135) b4 λb5=>aR b3 1 (.I t1351) b5 λb6=>aQ b3 0 b6 λb7=>aQ b3 1 b6 λb8=>WG.c q b7 b8 b6 λb9 ca cb=>If (((b9.len:Nat):Int)>0) (aQ b3 0 cb λcc=>YC.c a b cc b9 cb λcd=>aR f 0 (.I 0) cd λce=>aR f 1 (.I 0) ce λcf=>aQ f 0 cf λcg=>aQ f 1 cf λch=>e (.iface 274 (.agg #[])) cg ch cf) (aQ b3 0 cb λci=>aQ b3 1 cb λcj=>aR f 0 (.I 0) cb λck=>aR f 1 (.I 0) ck λcl=>aQ f 0 cl λcm=>aQ f 1 cl λcn=>
 e (.iface 277 (.agg #[.I ci,.I cj])) cm cn cl)) (∃t162:Int,∃t1621:Int,∃is3:Bool,nI c 277 [.I t162,.I t1621] [.I 0,.I 0] is3 ∧ (If is3 (aV #[.I 0,.I 0] 277 o λco cp=>aR co 0 (.I t162) cp λcq=>aR co 1 (.I t1621) cq λcr=>aQ co 0 cr λcs=>Ys.c q cs cr λct cu=>If (ct != 0) (aR f 0 (.I 0) cu λcv=>aR f 1 (.I ct) cv λcw=>aQ f 0 cw λcx=>aQ f 1 cw λcy=>e (.nilIface) cx cy cw) (aQ co 0 cu λcz=>aQ co 1 cu λc0=>aR f 0 (.I 0) cu λc1=>aR f 1 (.I 0) c1 λc2=>aQ f 0 c2 λc3=>aQ f 1 c2 λc4=>e (.iface 275 (.agg #[.I cz,.I c0])) c3 c4 c2)) (∃is4:Bool,nI c 274 [] [] is4 ∧ (If is4 (aV #[] 274 o λc5 c6=>bE (some j) 1 c6 λc8=>Ix c8.a c8.len 0 2 λc9=>aQ c9 0 c6 λda=>aX c9 1 c6 λdb=>aV #[.I 0,.slice none 0 0] 130 c6 λdc dd=>aR dc 0 (.I da) dd λde=>aR dc 1 (.slice db.a db.len db.cap) de λdf=>bQ (some j) λdg=>aR dg 1 (.slice none 0 0) df λdh=>bF (some j) 0 dh λdj=>aQ dc 0 dh λdk=>aX dc 1 dh λdl=>eX dl 1 1 (dl.len:Nat) (dl.cap:Nat) λdm=>Yd.c dj dk dm dh λdn dp=>dT dp λdq=>aT dq dc 1 λdr=>Ix dr.a dr.len 0 1 λds=>gW dq bN ds λ(dt:Int)=>bQ a λdu=>aT dq du 0 λdv=>aS dq dc 0 λdw=>Ix dv.a dv.len dw 3 λdx=>aS dq dx 0 λdy=>
 aS dq dc 0 λdz=>Y1.c a dt dy dz dp λd0 d1 d2 d3=>And (dq d3) <| aR f 0 (.I d1) d3 λd4=>aR f 1 (.I d2) d4 λd5=>aQ f 0 d5 λd6=>aQ f 1 d5 λd7=>e (d0) d6 d7 d5) (∃t217:Int,∃is5:Bool,nI c 262 [.I t217] [.I 0] is5 ∧ (If is5 (aV #[.I 0] 262 o λd8 d9=>cY d8 (.I t217) d9 λea=>aQ d8 0 ea λeb=>WT.c q eb 1 ea λec ed ee=>If (ed != 0) (aR f 0 (.I 0) ee λef=>aR f 1 (.I ed) ef λeg=>aQ f 0 eg λeh=>aQ f 1 eg λei=>e (.nilIface) eh ei eg) (bL (ec*256) λej=>aQ d8 0 ee λek=>bL (ek*256) λel=>Y1.c a ej el (-1) ee λem en eo ep=>aR f 0 (.I en) ep λeq=>aR f 1 (.I eo) eq λer=>aQ f 0 er λes=>aQ f 1 er λet=>e (em) es et er)) (∃t240:Int,∃is6:Bool,nI c 264 [.I t240] [.I 0] is6 ∧ (If is6 (aV #[.I 0] 264 o λeu ev=>cY eu (.I t240) ev λew=>aQ eu 0 ew λex=>ZC.c a b ex ew λey ez e0 e1=>aR f 0 (.I ez) e1 λe2=>aR f 1 (.I e0) e2 λe3=>aQ f 0 e3 λe4=>aQ f 1 e3 λe5=>e (ey) e4 e5 e3) (∃t250:Int,∃t2501:Int,∃is7:Bool,nI c 282 [.I t250,.I t2501] [.I 0,.I 0] is7 ∧ (If is7 (aV #[.I 0,.I 0] 282 o λe6 e7=>aR e6 0 (.I t250) e7 λe8=>aR e6 1 (.I t2501) e8 λe9=>Jn [] (λfa=>bE (some j) 1 fa λfc=>eX fc 2 1 (fc.len:Nat) (fc.cap:Nat) λfd=>bQ (some j) λfe=>aR fe 1 (.slice fd.a fd.len fd.cap) fa λff=>Jn [] (λfg=>
 W7.c a b fg λfh fi=>aR f 0 (.I 0) fi λfj=>aR f 1 (.I 0) fj λfk=>aQ f 0 fk λfl=>aQ f 1 fk λfm=>e (fh) fl fm fk) λfn=>bF (some j) 0 ff λfp=>Yo.c fp ff λfq fr=>If fq (dT fr λfs=>bQ (some j) λft=>aT fs ft 1 λfu=>bQ (some j) λfv=>aU fs fv 0 λfw=>Xa.c fw fr λfx fy=>And (fs fy) <| App fu 2 32 130 [.I 0,.slice none 0 0] fx fy λfz f0=>And (fs f0) <| bQ (some j) λf1=>aR f1 1 (.slice fz.a fz.len fz.cap) f0 λf2=>fn f2) (fn fr)) λf3=>dT e9 λf4=>bQ (some j) λf5=>aU f4 f5 0 λf6=>aS f4 e6 0 λf7=>aS f4 e6 1 λf8=>YW.c f6 f7 f8 e9 λf9 ga gb=>If (((f9.len:Nat):Int)>0) (aQ e6 0 gb λgc=>YC.c a b gc f9 gb λgd=>f3 gd) (f3 gb)) (∃is8:Bool,nI c 285 [] [] is8 ∧ (If is8 (aV #[] 285 o λge gf=>bE (some j) 1 gf λgh=>Ix gh.a gh.len 0 2 λgi=>aQ gi 0 gf λgj=>aX gi 1 gf λgk=>aV #[.I 0,.slice none 0 0] 130 gf λgl gm=>aR gl 0 (.I gj) gm λgn=>aR gl 1 (.slice gk.a gk.len gk.cap) gn λgo=>bE (some j) 1 go λgq=>eX gq 2 1 (gq.len:Nat) (gq.cap:Nat) λgr=>Wp.c gr go λgs gt=>bQ (some j) λgu=>aR gu 1 (.slice gs.a gs.len gs.cap) gt λgv=>dT gv λgw=>aS gw gl 0 λgx=>aT gw gl 1 λgy=>ZI.c a b gv λgz g0=>And (gw g0) <| Zz.c a gz gx gy g0 λg1=>
 W7.c a b g1 λg2 g3=>aR f 0 (.I 0) g3 λg4=>aR f 1 (.I 0) g4 λg5=>aQ f 0 g5 λg6=>aQ f 1 g5 λg7=>e (g2) g6 g7 g5) (∃t332:Int,∃t3321:Int,∃is9:Bool,nI c 289 [.I t332,.I t3321] [.I 0,.I 0] is9 ∧ (If is9 (aV #[.I 0,.I 0] 289 o λg8 g9=>aR g8 0 (.I t332) g9 λha=>aR g8 1 (.I t3321) ha λhb=>bE a 7 hb λhd=>aQ g8 1 hb λhe=>Ix hd.a hd.len he 1 λhf=>fY hf hb λhg=>aQ g8 0 hb λhh=>WV.c hg hh hb λhi hj=>w hj) (∃is10:Bool,nI c 266 [] [] is10 ∧ (If is10 (aV #[] 266 o λhk hl=>bF (some j) 0 hl λhn=>XT.c hn hl λho hp=>bQ (some j) λhq=>aR hq 1 (.slice ho.a ho.len ho.cap) hp λhr=>W7.c a b hr λhs ht=>aR f 0 (.I 0) ht λhu=>aR f 1 (.I 0) hu λhv=>aQ f 0 hv λhw=>aQ f 1 hv λhx=>e (hs) hw hx hv) (w o))))))))))))))))))))))):Zy.c a b c d e:=Wa Tryz.func133 (x:=Zy.h) (R0 f)
def ZI.h:Hn:=.q .o1 (.q .o8 .l)
theorem ZI.o {a:R2}{b:Int}{c:Hp}{d:aN}(e:bQ a λe=>aX e 7 c λf=>Nz ((f.len:Nat):Int) <| d (b.tmod ((f.len:Nat):Int)) c):ZI.c a b c d:=Wa Tryz.func170 (x:=ZI.h) (R0 e)
def Y1.h:Hn:=.q .o2 (.q (.cV (.held true [12] (.tk [0,1,2,3,4,5,6,7,8,9] (.all [(10,.take 11 (.all [(12,.done)]))])))) (.q .o4 .l))
theorem Y1.o {a:R2}{b c d:Int}{e:Hp}{f:Value->Int->Int->Hp->Prop}(g:aV #[.I 0,.I 0] 156 e λg h=>dT h λi=>bQ a λj=>gW i .m (j.add 9) λ(k:Option Nat)=>Yj.c a b h λl m=>And (i m) <| nO .i64 (.ag 4) k b (b,c,d,l) m λn=>aR g 0 (.I b) n λo=>aR g 1 (.I 0) o λp=>aQ g 0 p λq=>aQ g 1 p λr=>f (.nilIface) q r p):Y1.c a b c d e f:=Wa Tryz.func172 (x:=Y1.h) (R0 g)
def YC.h:Hn:=.cV (.held true [20] (.tk [0,1,2,3,4,5,6,7,8,9,10,11,12,13,14,15] (.all [(16,.all [(17,.take 18 (.take 19 (.all [(20,.done)])))])])))
theorem YC.o {a:R2}{b c:Int}{d:Sl}{e:Hp}{f:aP}(g:dT e λg=>bQ a λh=>aT g h 8 λi=>bQ a λj=>aT g j 8 λk=>Ix k.a k.len b 3 λl=>aT g l 1 λm=>aV #[.I c,.slice d.a d.len d.cap] 130 e λn o=>And (g o) <| App m 2 32 130 [.I 0,.slice none 0 0] ⟨some n,1,1⟩ o λp q=>And (g q) <| Ix i.a i.len b 3 λr=>aR r 1 (.slice p.a p.len p.cap) q λs=>f s):YC.c a b c d e f:=Wa Tryz.func175 (x:=YC.h) (R0 g)
def ZC.h:Hn:=.q .o2 (.q (.o 12) (.q (.q .o2 (.c (.kX [] (.q .o4 (.q .o2 (.c (.q (.o 16) (.q (.cV (.seq [.op,.op,.op,.dB true 2 [.op,.op],.op,.dB true 3 (RI.ops 3)])) (.c (.q .o3 .l) .l))) .l))) (.q .o3 .l)) .l)) (.q .o6 (.q (.q .o3 (.c (.q .o9 .l) .l)) (.q .o7 (.q .o8 .l))))))
theorem ZC.o {a:R2}{b c:Int}{d:Hp}{e:Value->Int->Int->Hp->Prop}(f:aV #[.I 0,.I 0] 156 d λf g=>bQ a λh=>bB h 9 g λi=>Lk .i64 (.ag 4) i c g λj=>aV #[.I 0,.I 0,.I 0,.I 0] 76 g λk l=>aR k 0 (.I ((j.getD (0,0,0,0)).1)) l λm=>aR k 1 (.I ((j.getD (0,0,0,0)).2.1)) m λn=>aR k 2 (.I ((j.getD (0,0,0,0)).2.2.1)) n λo=>aR k 3 (.I ((j.getD (0,0,0,0)).2.2.2)) o λp=>If (!j.isSome) (Jn [] (λq=>aR f 0 (.I 0) q λr=>aR f 1 (.I 8) r λs=>aQ f 0 s λt=>aQ f 1 s λu=>e (.nilIface) t u s) λv=>Yj.c a c p λw x=>If (w≥0) (bE a 7 x λz=>Ix z.a z.len w 1 λaa=>fY aa x λab=>Y7.c ab c x λac ad ae af=>bZ (λag ah=>bZ (λai aj=>If ai (aR f 0 (.I 0) aj λak=>aR f 1 (.I 9) ak λal=>aQ f 0 al λam=>aQ f 1 al λan=>e (.nilIface) am an al) (v aj)) λao=>If ag (ao (ad==c) ah) (ao false ah)) λap=>If (ae==0) (ap (decide (ac≥0)) af) (ap false af)) (v x)) (bI a 9 p λar=>pD .i64 (.ag 4) ar c p λau=>aQ k 2 au λav=>If (av<0) (Nz 256<|bL (c.tdiv 256) λaw=>aQ k 3 au λax=>aR f 0 (.I 0) au λay=>aR f 1 (.I 0) ay λaz=>aQ f 0 az λa0=>aQ f 1 az λa1=>e (.iface 289 (.agg #[.I aw,.I ax])) a0 a1 az) (aQ k 2 au λa2=>aV #[.I c] 3 au λa3 a4=>YC.c a b a2 ⟨some a3,1,1⟩ a4 λa5=>aQ k 2 a5 λa6=>aR f 0 (.I 0) a5 λa7=>
 aR f 1 (.I 0) a7 λa8=>aQ f 0 a8 λa9=>aQ f 1 a8 λba=>e (.iface 282 (.agg #[.I a6,.I c])) a9 ba a8))):ZC.c a b c d e:=Wa Tryz.func180 (x:=ZC.h) (R0 f)
def W7.h:Hn:=.q .o1 (.q (.q .fR .aK) (.q .o3 .l))
theorem W7.o {a:R2}{b:Int}{c:Hp}{d:Value->Hp->Prop}(e:bQ a λe=>aX e 8 c λf=>Ix f.a f.len b 3 λg=>aX g 1 c λh=>If (((h.len:Nat):Int)==0) (d (.nilIface) c) (d (.iface 285 (.agg #[])) c)):W7.c a b c d:=Wa Tryz.func184 (x:=W7.h) (R0 e)
def Zz.h:Hn:=.q .o1 (.q .o7 (.q (.q .o4 (.k (.loop [(23,.I)] (.q .o1 (.q (.c .l .l) (.q (.k (.q .o3 (.q .o4 (.o 11)))) .o2)))))) (.kX [] (.q (.oq 9) (.c (.q (.cV (.held true [] (.tk [0,1,2,3,4,5,6,7,8,9,10] (.all [(11,.tk [12,13,14,15,16] (.done))])))) (.q (.cV (.seq [.op,.op,.dB true 2 [.op,.op]])) (.c .l .l))) .l)) (.q .o3 (.k (.loop [(72,.I)] (.q .o1 (.q (.c .l .l) (.q (.k (.q .o5 (.q .o3 (.c (.cV (.tail 10 (RI.ops 10) [.op])) .l)))) .o2)))))))))
theorem Zz.o {a:R2}{b c:Int}{d:Sl}{e:Hp}{f:aP}(g:aV #[.I c,.slice d.a d.len d.cap] 130 e λg h=>bQ a λi=>aX i 7 h λj=>Mk ((j.len:Nat):Int) ((j.len:Nat):Int) 24 69 [.slice none 0 0] h λk l=>aX g 1 l λm=>Xb [bN] (λn=>n 0 l) λo (p:Int) q=>If (p<((m.len:Nat):Int)) (Ix m.a m.len p 1 λr=>bM r q λs=>Yj.c a s q λt u=>Ix k.a k.len t 1 λv=>kG v u λw=>aV #[.I s] 3 u λx y=>App w 1 8 3 [.I 0] ⟨some x,1,1⟩ y λz aa=>Ix k.a k.len t 1 λab=>cY ab (.slice z.a z.len z.cap) aa λac=>bL (p+1) λad=>o ad ac) (Jn [] (λae=>Xb [bN] (λaf=>af 0 ae) λag (ah:Int) ai=>If (ah<((k.len:Nat):Int)) (Ix k.a k.len ah 1 λaj=>kG aj ai λak=>If (((ak.len:Nat):Int)>0) (bE a 7 ai λam=>Ix am.a am.len ah 1 λan=>fY an ai λao=>aQ g 0 ai λap=>WE.c ao ap ak ai λaq ar=>bL (ah+1) λau=>ag au ar) (bL (ah+1) λav=>ag av ai)) (f ai)) λaw=>Ix k.a k.len b 1 λax=>kG ax q λay=>aX g 1 q λaz=>If (((ay.len:Nat):Int)==((az.len:Nat):Int)) (dT q λa0=>bQ a λa1=>aT a0 a1 7 λa2=>Ix a2.a a2.len b 1 λa3=>gW a0 .p a3 λ(a4:R2)=>aS a0 g 0 λa5=>aT a0 g 1 λa6=>WL.c a4 a5 a6 q λa7 a8 a9=>And (a0 a9) <| bZ (λba bb=>If ba (f bb) (aw bb)) λbc=>If a7 (bc (a8==0) a9) (bc false a9)) (aw q))):Zz.c a b c d e f:=Wa Tryz.func186 (x:=Zz.h) (R0 g)
end Go.Proofs
namespace Go.Ar
open Go Go.Vc Go.Proofs
def rf:Option Ph->Value
 | none=>.nilIface
 | some (.take k)=>.iface 260 (.agg #[.int .i64 (k:Int)])
 | some (.cN k w)=>.iface 270 (.agg #[.int .i64 (k:Int),.int .i64 (w:Int)])
 | some (.cP k w)=>.iface 275 (.agg #[.int .i64 (k:Int),.int .i64 (w:Int)])
 | some (.grow k w)=>.iface 277 (.agg #[.int .i64 (k:Int),.int .i64 (w:Int)])
 | some .fill=>.iface 274 (.agg #[])
 | some (.eU m)=>.iface 262 (.agg #[.int .i64 (m:Int)])
 | some (.find x)=>.iface 264 (.agg #[.int .i64 x])
 | some (.put k x)=>.iface 282 (.agg #[.int .i64 (k:Int),.int .i64 x])
 | some .back=>.iface 285 (.agg #[])
 | some (.dK s a)=>.iface 289 (.agg #[.int .i64 s,.int .i64 a])
 | some .drain=>.iface 266 (.agg #[])
theorem As (p:Option Ph):lH (rf p):=by
 cases p with
 | none=>exact .inl rfl
 | some p=>cases p<;>exact .inr ⟨_,_,rfl⟩
theorem De (p:Option Ph):oU (rf p)=p.isNone:=by
 cases p with
 | none=>rfl
 | some p=>cases p<;>rfl
inductive oC where
 | hd|dH|sp|fZ|cL|live
 | ar (k:Nat)
 | ca (k:Nat)
 | hn (k:Nat)
 deriving DecidableEq
structure eD where
 c:iE
 h:Sl
structure dQ where
 p:Nat
 hs:Nat
 lm:Nat
 dH:Sl
 fZ:Sl
 cL:Sl
 ys:List Lay
 ts:List eD
def xq (L:dQ)(c:Cf):List Value:=[.slice L.dH.a L.dH.len L.dH.cap,.int .i64 (c.aF:Int),.int .i64 (c.iO:Int),.int .i64 (c.threads:Int),.int .i64 (c.dD:Int),.int .i64 (c.room:Int),
 .pointer (some ⟨L.hs,0,none⟩),.slice L.fZ.a L.fZ.len L.fZ.cap,.slice L.cL.a L.cL.len L.cL.cap,.map (some L.lm)]
def lG (x:eD×Th):List Value:=[.pointer (some ⟨x.1.c.p,0,none⟩),.slice x.1.h.a x.1.h.len x.1.h.cap,rf x.2.ph]
def iG (ts:List eD)(bR:List Th):List Value:=(ts.zip bR).flatMap lG
theorem Gn:∀{ts:List eD} {bR:List Th},ts.length=bR.length->(iG ts bR).length=bR.length*3
 | [],[],_=>rfl
 | x::ts,h::bR,e=>by
  have e1:iG (x::ts) (h::bR)=lG (x,h)++iG ts bR:=rfl;have a:(lG (x,h)).length=3:=rfl;rw[e1,zK,Gn (by simpa using e),a,zN];omega
 | [],_::_,e=>by simp at e
 | _::_,[],e=>by simp at e
theorem EU:∀{ts:List eD} {bR:List Th} {i:Nat} {x:eD} {h:Th},ts[i]?=some x->bR[i]?=some h->∀{d:Nat},d<3->(iG ts bR)[3*i+d]?=(lG (x,h))[d]?
 | [],_,_,_,_,h1,_,_,_=>by simp at h1
 | _::_,[],_,_,_,_,h2,_,_=>by simp at h2
 | y::ts,g::bR,0,x,h,h1,h2,d,hd=>by
  have e1:iG (y::ts) (g::bR)=lG (y,g)++iG ts bR:=rfl;have a:(lG (y,g)).length=3:=rfl;simp at h1 h2;subst h1;subst h2;rw[e1,zh O];congr 1;omega
 | y::ts,g::bR,i+1,x,h,h1,h2,d,hd=>by
  have e1:iG (y::ts) (g::bR)=lG (y,g)++iG ts bR:=rfl;have a:(lG (y,g)).length=3:=rfl;rw[e1,zp O,a,show 3*(i+1)+d-3=3*i+d by omega];exact EU (by simpa using h1) (by simpa using h2) hd
theorem Du:∀{ts:List eD} {bR:List Th} {i:Nat} {x:eD} {h:Th},ts[i]?=some x->bR[i]?=some h->∀{d:Nat} {v:Value} {x':eD} {h':Th},d<3->lG (x',h')=(lG (x,h)).set d v →
 (iG ts bR).set (3*i+d) v=iG (ts.set i x') (bR.set i h')
 | [],_,_,_,_,h1,_,_,_,_,_,_,_=>by simp at h1
 | _::_,[],_,_,_,_,h2,_,_,_,_,_,_=>by simp at h2
 | y::ts,g::bR,0,x,h,h1,h2,d,v,x',h',hd,e=>by
  have e1:iG (y::ts) (g::bR)=lG (y,g)++iG ts bR:=rfl;have a:iG ((y::ts).set 0 x') ((g::bR).set 0 h')=lG (x',h')++iG ts bR:=rfl;have b:(lG (y,g)).length=3:=rfl;simp at h1 h2;subst h1;subst h2;rw[e1,a,List.set_append_left _ _ O,e,show 3*0+d=d by omega]
 | y::ts,g::bR,i+1,x,h,h1,h2,d,v,x',h',hd,e=>by
  have e1:iG (y::ts) (g::bR)=lG (y,g)++iG ts bR:=rfl;have a:iG ((y::ts).set (i+1) x') ((g::bR).set (i+1) h')=lG (y,g)++iG (ts.set i x') (bR.set i h'):=rfl;have b:(lG (y,g)).length=3:=rfl;rw[e1,a,Ci _ _ O,b,show 3*(i+1)+d-3=3*i+d by omega];rw[Du (by simpa using h1) (by simpa using h2) hd e]
def sv (y:Option Lay)(a:Option AR):Hp->Rg->Prop:=λσ F=>match y,a with
 | some Y,some A=>cX σ F Y A (cF A Y)
 | _,_=>True
def uh (x:Option eD)(h:Option Th)(tb:List bY)(bud:Nat):Hp->Rg->Prop:=λσ F=>match x,h with
 | some x,some h=>eB σ F x.c tb bud h.ls
 | _,_=>True
def sT (x:Option eD)(h:Option Th):Hp->Rg->Prop:=λσ F=>match x,h with
 | some x,some h=>iK x.h h.bP σ F
 | _,_=>True
def CH (H:Hw)(L:dQ):oC->Hp->Rg->Prop
 | .hd=>iW L.p (xq L H.cf)
 | .dH=>cT L.dH 3 (gA H.tb)
 | .sp=>λσ F=>dI σ F L.hs H.sp
 | .fZ=>cT L.fZ 1 (eY (L.ys.map (·.p)))
 | .cL=>bS L.cL 3 (iG L.ts H.bR)
 | .live=>lQ L.lm .i64 (.ag 4) H.live
 | .ar k=>sv L.ys[k]? H.bT[k]?
 | .ca t=>uh L.ts[t]? H.bR[t]? H.tb H.cf.dD
 | .hn t=>sT L.ts[t]? H.bR[t]?
theorem sv.loc (y:Option Lay)(a:Option AR):dS (sv y a):=by
 intro σ σ' F G h hz hs;unfold sv at *;split at h
 ·exact cX.loc _ _ _ _ h hz hs
 ·trivial
theorem uh.loc (x:Option eD)(h:Option Th)(tb:List bY)(bud:Nat):dS (uh x h tb bud):=by
 intro σ σ' F G h hz hs;unfold uh at *;split at h
 ·exact eB.loc _ _ _ _ h hz hs
 ·trivial
theorem sT.loc (x:Option eD)(h:Option Th):dS (sT x h):=by
 intro σ σ' F G h hz hs;unfold sT at *;split at h
 ·exact iK.loc _ _ _ _ _ _ h hz hs
 ·trivial
theorem CH.loc {H:Hw}{L:dQ}:∀i,dS (CH H L i)
 | .hd=>iW.loc _ _
 | .dH=>cT.loc _ _ _
 | .sp=>dI.loc
 | .fZ=>cT.loc _ _ _
 | .cL=>bS.loc _ _ _
 | .live=>lQ.loc _ _ _ _
 | .ar k=>sv.loc _ _
 | .ca t=>uh.loc _ _ _ _
 | .hn t=>sT.loc _ _
structure HS (L:dQ) (H:Hw):Prop where
 ys:L.ys.length=H.bT.length
 hs:∀Y∈L.ys,Y.hs=L.hs
 ts:L.ts.length=H.bR.length
 a1:1<=H.bT.length
 a2:H.bT.length<=4
 t1:1<=H.bR.length
 t2:H.bR.length<=4
 tb:∀A∈H.bT,A.tb=H.tb
structure HH (σ:Hp) (F:Rg) (L:dQ) (H:Hw):Prop where
 s:HS L H
 sep:Sep (CH H L) σ F
 g:Gl σ
 gd:Gd σ
 o:jS F
 o2:¬F 1
variable {σ:Hp}{F:Rg}{L:dQ}{H:Hw}{t k:Nat}
theorem HH.bK (h:HH σ F L H){σ':Hp}(e:bO σ σ'):HH σ' F L H:=⟨h.s,(Sep.loc CH.loc).bK h.sep e,h.g.bK e,h.gd.bK e,h.o,h.o2⟩
theorem HH.bU (h:HH σ F L H){σ':Hp}{T:Rg}(e:Ext T σ σ')(hT:∀b,b<σ.size->F b->¬T b)(hg:jS T)(hg2:¬T 1):HH σ' F L H:=⟨h.s,(Sep.loc CH.loc).bU h.sep e hT,h.g.bU e hg,h.gd.bU e hg2,h.o,h.o2⟩
theorem Ek {σ:Hp}(g:Gd σ):1<σ.size:=g.lt
theorem HH.mono (h:HH σ F L H){G:Rg}(hs:∀b,b<σ.size->F b->G b)(o:jS G)(o2:¬G 1):HH σ G L H:=⟨h.s,(Sep.loc CH.loc).mono h.sep hs,h.g,h.gd,o,o2⟩
theorem HH.oG (h:HH σ F L H):jS (Grow F σ):=h.o.grow h.g
theorem HH.vj (h:HH σ F L H):¬Grow F σ 1:=λa=>by
 rcases a with a|a
 ·exact h.o2 a
 ·have:=Ek h.gd;omega
theorem HH.sub (h:HH σ F L H){G:Rg}(hs:∀b,b<σ.size->F b->G b)(hg:∀b,G b->F b\/σ.size<=b):HH σ G L H:=
 h.mono hs (h.oG.sub hg) λa=>h.vj (hg _ a)
theorem HH.AN {v v':Hp}{G T:Rg}{L0:dQ}{H0:Hw}(h0:HH σ F L0 H0)(h:HH v G L H)(e:Ext T v v')(hT:∀b,T b->σ.size<=b)(hG:∀b,b<v.size->G b->¬T b):HH v' G L H:=
 h.bU e hG (h0.oG.sub λb a=>.inr (hT b a)) λa=>h0.vj (.inr (hT _ a))
theorem HH.grown {σ':Hp}{R:Rg}{L':dQ}{H':Hw}(h:HH σ F L H)(h':HH σ' R L' H')(hr:∀b,b<σ'.size->R b->Grow F σ b):HH σ' (Grow F σ) L' H':=h'.mono hr h.oG h.vj
theorem HH.cut (h:HH σ F L H):HH σ (Cut F σ) L H:=h.sub (λb a d=>⟨d,a⟩) λb a=>.inl a.1
theorem HH.pH (h:HH σ F L H)(i:oC):∃G:Rg,(∀b,G b->F b)/\CH H L i σ G/\(∀j,j≠i->∃D:Rg,(∀b,D b->F b)/\(∀b,D b->¬G b)/\CH H L j σ D) ∧
 ∀(σ':Hp) (H':Hw) (L':dQ) (G':Rg),HS L' H'->(∀j,j≠i->CH H' L' j=CH H L j)->Ext G σ σ'->(∀b,G' b->Grow G σ b)->CH H' L' i σ' G' →
  Ext F σ σ'/\HH σ' (λb=>F b/\b<σ.size/\¬G b\/G' b) L' H':=by
 obtain⟨G,r,y,hd,m⟩:=h.sep.mI CH.loc i;refine⟨G,r,y,hd,λσ' H' L' G' x u e s w=>?_⟩;have p:=e.sub r;have d:∀b,(F b/\b<σ.size/\¬G b\/G' b)->Grow F σ b:=λb a=>by
  rcases a with a|a
  ·exact .inl a.1
  ·exact(s b a).imp (r b) id
 refine⟨p,x,m σ' (CH H' L') G' u e s w (CH.loc _),h.g.bU p h.o,h.gd.bU p h.o2,λb a=>(h.o.grow h.g) b (d b a),λa=>?_⟩;rcases d _ a with h1|h1
 ·exact h.o2 h1
 ·have:=Ek h.gd;omega
theorem _root_.Go.Vc.Sep.wZ {L:Type}{C:L->Hp->Rg->Prop}{σ:Hp}{F:Rg}(hC:∀i,dS (C i))(h:Sep C σ F)(i j:L)(hij:i≠j)(N:Rg)(hN:∀b,b<σ.size->F b->¬N b):∃G D:Rg,(∀b,G b->F b)/\(∀b,D b->F b)/\(∀b,G b->¬D b)/\C i σ G/\C j σ D/\(∀m,m≠i->m≠j->∃E:Rg,(∀b,E b->F b)/\(∀b,E b->¬(G b\/D b))/\C m σ E) ∧
 ∀(σ':Hp) (C':L->Hp->Rg->Prop) (G' D':Rg),(∀k,k≠i->k≠j->C' k=C k)->Ext (λb=>G b\/D b) σ σ'->(∀b,G' b->(G b\/D b)\/N b)->(∀b,D' b->(G b\/D b)\/N b)->(∀b,G' b->¬D' b)->C' i σ' G'->C' j σ' D'->(∀k,dS (C' k)) →
 Sep C' σ' λb=>F b/\b<σ.size/\¬(G b\/D b)\/G' b\/D' b:=by
 obtain⟨ρ,h⟩:=h
 let G:Rg:=λb=>F b/\ρ b=i
 let D:Rg:=λb=>F b/\ρ b=j
 refine⟨G,D,λb a=>a.1,λb a=>a.1,λb x u=>hij (x.2.symm.trans u.2),h i,h j,λm x u=>⟨λb=>F b/\ρ b=m,λb a=>a.1,λb a d=>d.elim (λw=>x (a.2.symm.trans w.2)) λw=>u (a.2.symm.trans w.2),h m⟩,λσ' C' G' D' z e A H hd B J y=>?_⟩
 open Classical in
 refine⟨λb=>if G' b then i else if D' b then j else ρ b,λk=>?_⟩
 by_cases hki:k=i
 ·subst hki;exact(y _).mono B λb _ a=>⟨.inr (.inl a),zB a⟩
 by_cases hkj:k=j
 ·subst hkj;exact(y _).mono J λb _ a=>⟨.inr (.inr a),by show(if G' b then i else if D' b then k else ρ b)=k;rw[zA λd=>hd b d a,zB a]⟩
 ·rw[z k hki hkj];refine hC k _ _ _ _ (h k) e.1 λb a g=>?_;have s:¬(G b\/D b):=by
   rintro(d|d)
   ·exact hki (g.2.symm.trans d.2)
   ·exact hkj (g.2.symm.trans d.2)
  have r:¬G' b:=λd=>(A b d).elim s (hN b a g.1);have p:¬D' b:=λd=>(H b d).elim s (hN b a g.1);exact⟨⟨.inl ⟨g.1,a,s⟩,by show(if G' b then i else if D' b then j else ρ b)=k;rw[zA r,zA p];exact g.2⟩,e.2 b a s⟩
theorem HH.tH (h:HH σ F L H)(i j:oC)(hij:i≠j)(N:Rg)(hN:∀b,b<σ.size->F b->¬N b)(oN:jS N)(oN2:¬N 1):∃G D:Rg,(∀b,G b->F b)/\(∀b,D b->F b)/\(∀b,G b->¬D b)/\CH H L i σ G/\CH H L j σ D/\(∀m,m≠i->m≠j->∃E:Rg,(∀b,E b->F b)/\(∀b,E b->¬(G b\/D b))/\CH H L m σ E) ∧
 ∀(σ':Hp) (H':Hw) (L':dQ) (G' D':Rg),HS L' H'->(∀m,m≠i->m≠j->CH H' L' m=CH H L m)->Ext (λb=>G b\/D b) σ σ'->(∀b,G' b->(G b\/D b)\/N b)->(∀b,D' b->(G b\/D b)\/N b)->(∀b,G' b->¬D' b)->CH H' L' i σ' G'->CH H' L' j σ' D' →
  Ext F σ σ'/\HH σ' (λb=>F b/\b<σ.size/\¬(G b\/D b)\/G' b\/D' b) L' H':=by
 obtain⟨G,D,u,s,hd,C,J,p,r⟩:=h.sep.wZ CH.loc i j hij N hN;refine⟨G,D,u,s,hd,C,J,p,λσ' H' L' G' D' M P e z A y K B=>?_⟩;have x:Ext F σ σ':=e.sub λb a=>a.elim (u b) (s b);have d:∀b,(F b/\b<σ.size/\¬(G b\/D b)\/G' b\/D' b)->F b\/N b:=λb a=>by
  rcases a with a|a|a
  ·exact .inl a.1
  ·exact(z b a).imp (λw=>w.elim (u b) (s b)) id
  ·exact(A b a).imp (λw=>w.elim (u b) (s b)) id
 refine⟨x,M,r σ' (CH H' L') G' D' P e z A y K B CH.loc,h.g.bU x h.o,h.gd.bU x h.o2,λb a=>(d b a).elim (h.o b) (oN b),λa=>?_⟩;exact(d _ a).elim h.o2 oN2
theorem HH.qh (h:HH σ F L H):jS (λb=>σ.size<=b)/\¬(σ.size<=1):=⟨h.oG.sub λb a=>.inr a,λa=>h.vj (.inr a)⟩
theorem HH.tV (h:HH σ F L H)(i j:oC)(hij:i≠j):∃G D:Rg,(∀b,G b->F b)/\(∀b,D b->F b)/\(∀b,G b->¬D b)/\CH H L i σ G/\CH H L j σ D/\(∀m,m≠i->m≠j->∃E:Rg,(∀b,E b->F b)/\(∀b,E b->¬(G b\/D b))/\CH H L m σ E) ∧
 ∀(σ':Hp) (H':Hw) (L':dQ) (G' D':Rg),HS L' H'->(∀m,m≠i->m≠j->CH H' L' m=CH H L m)->Ext (λb=>G b\/D b) σ σ'->(∀b,G' b->(G b\/D b)\/σ.size<=b)->(∀b,D' b->(G b\/D b)\/σ.size<=b)->(∀b,G' b->¬D' b)->CH H' L' i σ' G'->CH H' L' j σ' D' →
  Ext F σ σ'/\HH σ' (λb=>F b/\b<σ.size/\¬(G b\/D b)\/G' b\/D' b) L' H':=
 h.tH i j hij _ (λb a _=>O) h.qh.1 h.qh.2
theorem HH.hd (h:HH σ F L H):bX σ L.p (xq L H.cf):=by obtain⟨G,b,a⟩:=h.sep.get .hd;exact a.2
theorem HH.lF (h:HH σ F L H):cT L.dH 3 (gA H.tb) σ F:=by
 obtain⟨G,d,a⟩:=h.sep.get .dH;exact aH.mono a λb _ a=>d b a
theorem HH.r9 (h:HH σ F L H):L.dH.len=H.tb.length:=by
 have:=h.lF.1;rw[KT]at this;omega
theorem HH.qJ (h:HH σ F L H):cT L.fZ 1 (eY (L.ys.map (·.p))) σ F:=by
 obtain⟨G,d,a⟩:=h.sep.get .fZ;exact aH.mono a λb _ a=>d b a
theorem HH.lL (h:HH σ F L H):L.fZ.len=H.bT.length:=by
 have:=h.qJ.1;have:=h.s.ys;simp[eY]at *;omega
theorem HH.mA (h:HH σ F L H):cT L.cL 3 (iG L.ts H.bR) σ F:=by
 obtain⟨G,d,a⟩:=h.sep.get .cL;exact aH.mono (bS.gE a) λb _ a=>d b a
theorem HH.jX (h:HH σ F L H):L.cL.len=H.bR.length:=by
 have:=h.mA.1;rw[Gn h.s.ts]at this;omega
theorem HH.mR (h:HH σ F L H):dN σ L.lm .i64 (.ag 4) H.live:=by obtain⟨G,b,a⟩:=h.sep.get .live;exact a.2
theorem HH.CL (h:HH σ F L H):dI σ F L.hs H.sp:=by
 obtain⟨G,d,a⟩:=h.sep.get .sp;exact dS.mono dI.loc a λb _ a=>d b a
theorem HH.ar (h:HH σ F L H){A:AR}(hk:H.bT[k]?=some A):∃Y,L.ys[k]?=some Y/\Y.hs=L.hs/\cX σ F Y A (cF A Y):=by
 have g:=(cQ.1 hk).1;have d:L.ys[k]?=some (L.ys[k]'(by rw[h.s.ys];exact g)):=cM _;obtain⟨G,e,a⟩:=h.sep.get (.ar k);simp only[CH,hk,d,sv]at a;exact⟨_,d,h.s.hs _ (zE d),a.mono λb _ a=>e b a⟩
theorem HH.rA (h:HH σ F L H){Y:Lay}(hy:L.ys[k]?=some Y){K:Option Addr->Prop}(hK:K (some ⟨Y.p,0,none⟩)):Ix L.fZ.a L.fZ.len (k:Int) 1 λa=>fY a σ K:=
 F2 h.qJ (by simp[hy]) hK
theorem HH.th (h:HH σ F L H)(ht:t<H.bR.length):∃x g,L.ts[t]?=some x/\H.bR[t]?=some g:=⟨L.ts[t]'(by rw[h.s.ts];exact ht),H.bR[t],cM _,cM _⟩
theorem UB {s:Sl}{ts:List eD}{bR:List Th}(h:cT s 3 (iG ts bR) σ F){x:eD}{g:Th}(hx:ts[t]?=some x)(hg:bR[t]?=some g){d:Nat}(hd:d<3){v:Value}(hv:(lG (x,g))[d]?=some v):∃b o,s.a=some ⟨b,o,none⟩/\cell σ ⟨b,o+(3*t+d),none⟩=some v:=
 h.cell ((EU hx hg hd).trans hv)
theorem Dw {s:Sl}{ts:List eD}{bR:List Th}(hs:cT s 3 (iG ts bR) σ F)(hl:ts.length=bR.length){x:eD}{g:Th}(hx:ts[t]?=some x)(hg:bR[t]?=some g){d:Nat}(hd:d<3){v:Value}(hv:(lG (x,g))[d]?=some v){K:Addr->Prop}
 (hK:∀b o,s.a=some ⟨b,o,none⟩->cell σ (Addr.add ⟨b,o+3*t,none⟩ d)=some v->K ⟨b,o+3*t,none⟩):Ix s.a s.len (t:Int) 3 K:=by
 have m:=(cQ.1 hg).1;have e:=hs.1;rw[Gn hl]at e;obtain⟨b,o,i,j⟩:=UB hs hx hg hd hv;rw[i];refine ix O O ?_;rw[add_lit,show o+(t:Int).toNat*3=o+3*t by omega];exact hK b o i (by rw[add_lit,show o+3*t+d=o+(3*t+d) by omega];exact j)
theorem HH.MB (h:HH σ F L H){x:eD}{g:Th}(hx:L.ts[t]?=some x)(hg:H.bR[t]?=some g){d:Nat}(hd:d<3){v:Value}(hv:(lG (x,g))[d]?=some v){K:Addr->Prop}
 (hK:∀b o,cell σ (Addr.add ⟨b,o+3*t,none⟩ d)=some v->K ⟨b,o+3*t,none⟩):Ix L.cL.a L.cL.len (t:Int) 3 K:=
 Dw h.mA h.s.ts hx hg hd hv λb o _ e=>hK b o e
theorem HH.tS (h:HH σ F L H){x:eD}{g:Th}(hx:L.ts[t]?=some x)(hg:H.bR[t]?=some g){K:Sl->Prop}(hK:K x.h):Ix L.cL.a L.cL.len (t:Int) 3 λa=>kG (a.add 1) σ K:=
 h.MB hx hg (d:=1) O rfl λb o e=>rm e hK
theorem HH.tR (h:HH σ F L H){x:eD}{g:Th}(hx:L.ts[t]?=some x)(hg:H.bR[t]?=some g){K:Value->Prop}(hK:K (rf g.ph)):Ix L.cL.a L.cL.len (t:Int) 3 λa=>Al (a.add 2) σ K:=
 h.MB hx hg (d:=2) O rfl λb o e=>⟨_,e,hK⟩
theorem HS.eA (h:HS L H){bR:List Th}{ts:List eD}(e:ts.length=bR.length)(e2:bR.length=H.bR.length):HS {L with ts:=ts} {H with bR:=bR}:=⟨h.ys,h.hs,e,h.a1,h.a2,by rw[e2];exact h.t1,by rw[e2];exact h.t2,h.tb⟩
theorem HS.cC (h:HS L H){A:AR}{sp:Sp}(e:A.tb=H.tb):HS L {H.cC k A with sp:=sp}:=⟨by simp[Hw.cC,h.ys],h.hs,h.ts,by simp[Hw.cC,h.a1],by simp[Hw.cC,h.a2],h.t1,h.t2,λB a=>by
 rcases AE a with h1|h1
 ·exact h.tb B h1
 ·subst h1;exact e⟩
theorem LW {A:AR}:∀j,j≠oC.ar k->CH (H.cC k A) L j=CH H L j:=by
 intro j hj;cases j<;>try rfl
 rename_i m;have a:m≠k:=λe=>hj (by rw[e]);simp only[CH,Hw.cC,zm (Ne.symm a)]
theorem NX {sp:Sp}:∀j,j≠oC.sp->CH {H with sp:=sp} L j=CH H L j:=by
 intro j hj;cases j<;>first|rfl|exact absurd rfl hj
theorem Wnj {l:List (Int×Bk)}:∀j,j≠oC.live->CH {H with live:=l} L j=CH H L j:=by
 intro j hj;cases j<;>first|rfl|exact absurd rfl hj
theorem HH.A8 (h:HH σ F L H){A:AR}(hk:H.bT[k]?=some A):∃(Y:Lay) (G:Rg),L.ys[k]?=some Y/\Y.hs=L.hs/\(∀b,G b->F b)/\cX σ G Y A (cF A Y)/\∀(σ':Hp) (A':AR) (G':Rg),A'.tb=A.tb->Ext G σ σ'->(∀b,G' b->Grow G σ b)->cX σ' G' Y A' (cF A' Y) →
 Ext F σ σ'/\HH σ' (λb=>F b/\b<σ.size/\¬G b\/G' b) L (H.cC k A'):=by
 have g:=(cQ.1 hk).1;have d:L.ys[k]?=some (L.ys[k]'(by rw[h.s.ys];exact g)):=cM _;generalize (L.ys[k]'(by rw[h.s.ys];exact g))=Y at d;obtain⟨G,r,j,_,a⟩:=h.pH (.ar k);simp only[CH,hk,d,sv]at j;refine⟨Y,G,d,h.s.hs _ (zE d),r,j,λσ' A' G' i e m p=>?_⟩;refine a σ' (H.cC k A') L G' (h.s.cC (sp:=H.sp) (i.trans (h.s.tb A (zE hk)))) LW e m ?_;simp only[CH,Hw.cC,d,zO g,sv];exact p
theorem HH.oI (h:HH σ F L H){A:AR}(hk:H.bT[k]?=some A):∃(Y:Lay) (G D:Rg),L.ys[k]?=some Y/\Y.hs=L.hs/\W2 σ G D Y A (cF A Y) H.sp/\∀(σ':Hp) (A':AR) (sp':Sp) (G' D':Rg),A'.tb=A.tb->Ext (gK G D) σ σ'->Fits σ G D G' D'->W2 σ' G' D' Y A' (cF A' Y) sp' →
 Ext F σ σ'/\HH σ' (Grow F σ) L {H.cC k A' with sp:=sp'}:=by
 have J:=(cQ.1 hk).1;have i:L.ys[k]?=some (L.ys[k]'(by rw[h.s.ys];exact J)):=cM _;generalize (L.ys[k]'(by rw[h.s.ys];exact J))=Y at i;obtain⟨G,D,C,E,hd,M,z,_,w⟩:=h.tV (.ar k) .sp (by intro e;cases e);simp only[CH,hk,i,sv]at M;have z:dI σ D L.hs H.sp:=z;have j:=h.s.hs _ (zE i);refine⟨Y,G,D,i,j,⟨M,by rw[j];exact z,hd,h.g,h.o.sub C,h.o.sub E⟩,λσ' A' sp' G' D' K e N y=>?_⟩;have r:∀b,G' b->(G b\/D b)\/σ.size<=b:=λb x=>(N.1 b x).imp .inl id;have u:∀b,D' b->(G b\/D b)\/σ.size<=b:=λb x=>.inl (.inr (N.2 b x));have P:∀m,m≠oC.ar k->m≠oC.sp->CH {H.cC k A' with sp:=sp'} L m=CH H L m:=λm B S=>
  (LW (H:={H with sp:=sp'}) (L:=L) (A:=A') m B).trans (NX m S)
 have Q:CH {H.cC k A' with sp:=sp'} L (.ar k) σ' G':=by
  simp only[CH,Hw.cC,i,zO J,sv];exact y.a
 have U:CH {H.cC k A' with sp:=sp'} L .sp σ' D':=by
  show dI σ' D' L.hs sp';rw[←j];exact y.s
 obtain⟨R,B⟩:=w σ' {H.cC k A' with sp:=sp'} L G' D' (h.s.cC (K.trans (h.s.tb A (zE hk)))) P e r u y.d Q U;refine⟨R,h.grown B λb x p=>?_⟩;rcases p with p|p|p
 ·exact .inl p.1
 ·exact(r b p).imp (λi=>i.elim (C b) (E b)) id
 ·exact(u b p).imp (λi=>i.elim (C b) (E b)) id
theorem HH.A4 (h:HH σ F L H):∃G:Rg,(∀b,G b->F b)/\dI σ G L.hs H.sp/\jS G/\∀(σ':Hp) (sp':Sp),Ext G σ σ'->dI σ' (Grow G σ) L.hs sp'->Ext F σ σ'/\HH σ' (Grow F σ) L {H with sp:=sp'}:=by
 obtain⟨G,g,p,_,d⟩:=h.pH .sp;refine⟨G,g,p,h.o.sub g,λσ' sp' e hs=>?_⟩;obtain⟨m,j⟩:=d σ' {H with sp:=sp'} L (Grow G σ) ⟨h.s.ys,h.s.hs,h.s.ts,h.s.a1,h.s.a2,h.s.t1,h.s.t2,h.s.tb⟩ NX e (λb i=>i) hs;exact⟨m,h.grown j λb i a=>by
  rcases a with a|a
  ·exact .inl a.1
  ·exact a.imp (g b) id⟩
theorem HH.vT (h:HH σ F L H):F L.lm/\∀(σ':Hp) (l:List (Int×Bk)),QJ σ σ' L.lm->dN σ' L.lm .i64 (.ag 4) l->Ext F σ σ'/\HH σ' F L {H with live:=l}:=by
 obtain⟨G,i,e,_,a⟩:=h.pH .live;have e:lQ L.lm .i64 (.ag 4) H.live σ G:=e;refine⟨i _ e.1,λσ' l m p=>?_⟩;obtain⟨r,j⟩:=a σ' {H with live:=l} L G ⟨h.s.ys,h.s.hs,h.s.ts,h.s.a1,h.s.a2,h.s.t1,h.s.t2,h.s.tb⟩ Wnj (m.ext.sub λb g=>by rw[g];exact e.1) (λb g=>.inl g) ⟨e.1,p⟩;exact⟨r,j.mono (λb _ d=>by
  rcases d with d|d
  ·exact d.1
  ·exact i b d) h.o h.o2⟩
theorem HH.tu (h:HH σ F L H){x:eD}{g:Th}(hx:L.ts[t]?=some x)(hg:H.bR[t]?=some g):∃G:Rg,(∀b,G b->F b)/\eB σ G x.c H.tb H.cf.dD g.ls/\∀(σ':Hp) (ls:List Li) (Y':iE) (G':Rg),Y'.p=x.c.p->Ext G σ σ'->(∀b,G' b->Grow G σ b)->eB σ' G' Y' H.tb H.cf.dD ls →
 Ext F σ σ'/\HH σ' (λb=>F b/\b<σ.size/\¬G b\/G' b) {L with ts:=L.ts.set t {x with c:=Y'}} {H with bR:=H.bR.set t {g with ls:=ls}}:=by
 have a:=(cQ.1 hx).1;have r:=(cQ.1 hg).1;obtain⟨G,E,z,_,i⟩:=h.pH (.ca t);simp only[CH,hx,hg,uh]at z;refine⟨G,E,z,λσ' ls Y' G' B e w A=>?_⟩;have y:iG (L.ts.set t {x with c:=Y'}) (H.bR.set t {g with ls:=ls})=iG L.ts H.bR:=by
  have D:(iG L.ts H.bR).set (3*t+0) (.pointer (some ⟨x.c.p,0,none⟩))=iG L.ts H.bR:=Qq (EU hx hg O);rw[←D];exact(Du hx hg (d:=0) O (by simp[lG,B])).symm
 refine i σ' {H with bR:=H.bR.set t {g with ls:=ls}} {L with ts:=L.ts.set t {x with c:=Y'}} G' (h.s.eA (by simp[h.s.ts]) aA) (λj C=>?_) e w ?_
 ·cases j<;>try rfl
  ·simp only[CH,y]
  ·rename_i m;have u:m≠t:=λe=>C (by rw[e]);simp only[CH,zm (Ne.symm u)]
  ·rename_i m;by_cases u:m=t
   ·subst u;simp only[CH,zO a,zO r,hx,hg];rfl
   ·simp only[CH,zm (Ne.symm u)]
 ·simp only[CH,zO a,zO r,uh];exact A
theorem HH.vM (h:HH σ F L H){x:eD}{g:Th}(hx:L.ts[t]?=some x)(hg:H.bR[t]?=some g)(N:Rg)(hN:∀b,b<σ.size->F b->¬N b)(oN:jS N)(oN2:¬N 1):∃G D:Rg,(∀b,G b->F b)/\(∀b,D b->F b)/\(∀b,G b->¬D b)/\iK x.h g.bP σ G/\bS L.cL 3 (iG L.ts H.bR) σ D/\(∃E:Rg,(∀b,E b->¬G b)/\(∀b,E b->¬D b)/\iW L.p (xq L H.cf) σ E) ∧
 ∀(σ':Hp) (s:Sl) (bs:List Bt) (G' D':Rg),Ext (λb=>G b\/D b) σ σ'->(∀b,G' b->(G b\/D b)\/N b)->(∀b,D' b->(G b\/D b)\/N b)->(∀b,G' b->¬D' b)->iK s bs σ' G'->bS L.cL 3 ((iG L.ts H.bR).set (3*t+1) (.slice s.a s.len s.cap)) σ' D' →
  Ext F σ σ'/\HH σ' (λb=>F b/\b<σ.size/\¬(G b\/D b)\/G' b\/D' b) {L with ts:=L.ts.set t {x with h:=s}} {H with bR:=H.bR.set t {g with bP:=bs}}:=by
 have j:=(cQ.1 hx).1;have u:=(cQ.1 hg).1;obtain⟨G,D,S,U,hd,M,z,i,r⟩:=h.tH (.hn t) .cL (by intro e;cases e) N hN oN oN2;simp only[CH,hx,hg,sT]at M;have z:bS L.cL 3 (iG L.ts H.bR) σ D:=z;obtain⟨E,_,P,y⟩:=i .hd (by intro e;cases e) (by intro e;cases e);refine⟨G,D,S,U,hd,M,z,⟨E,λb C hx=>P b C (.inl hx),λb C hx=>P b C (.inr hx),y⟩,λσ' s bs G' D' e K B A V Q=>?_⟩;have J:iG (L.ts.set t {x with h:=s}) (H.bR.set t {g with bP:=bs})=(iG L.ts H.bR).set (3*t+1) (.slice s.a s.len s.cap):=(Du hx hg (d:=1) O (by simp[lG])).symm;refine r σ' {H with bR:=H.bR.set t {g with bP:=bs}} {L with ts:=L.ts.set t {x with h:=s}} G' D' (h.s.eA (by simp[h.s.ts]) aA) (λm R W=>?_) e K B A ?_ ?_
 ·cases m<;>first|rfl|exact absurd rfl W|skip
  ·rename_i m;by_cases w:m=t
   ·subst w;simp only[CH,zO j,zO u,hx,hg];rfl
   ·simp only[CH,zm (Ne.symm w)]
  ·rename_i m;have w:m≠t:=λe=>R (by rw[e]);simp only[CH,zm (Ne.symm w)]
 ·simp only[CH,zO j,zO u,sT];exact V
 ·simp only[CH,J];exact Q
theorem HH.vV (h:HH σ F L H){x:eD}{g:Th}(hx:L.ts[t]?=some x)(hg:H.bR[t]?=some g)(p:Option Ph){K:aP}(hK:∀σ',Ext F σ σ'->HH σ' F L {H with bR:=H.bR.set t {g with ph:=p}}->K σ') :
 Ix L.cL.a L.cL.len (t:Int) 3 λa=>And (lH (rf p)) (cY (a.add 2) (rf p) σ K):=by
 have B:=(cQ.1 hx).1;have u:=(cQ.1 hg).1;have A:=h.jX;obtain⟨G,M,w,_,r⟩:=h.pH .cL;have w:bS L.cL 3 (iG L.ts H.bR) σ G:=w;have C:=Gn h.s.ts;obtain⟨b,y⟩:∃b,L.cL.a=some ⟨b,0,none⟩:=by
  rcases w.2 with⟨h0,_⟩|⟨b,_,_,ha,_⟩
  ·omega
  ·exact⟨b,ha⟩
 rw[y];refine ix O O ⟨As p,?_⟩;refine w.st (j:=3*t+2) O (λP i=>by rw[y]at i;cases i;rw[add_lit,add_lit];congr 1;omega) λσ' e D=>?_;have z:iG L.ts (H.bR.set t {g with ph:=p})=(iG L.ts H.bR).set (3*t+2) (rf p):=by
  have:=Du hx hg (d:=2) (v:=rf p) (x':=x) (h':={g with ph:=p}) O (by simp[lG]);rw[this,Qq hx]
 obtain⟨N,J⟩:=r σ' {H with bR:=H.bR.set t {g with ph:=p}} L G (h.s.eA (ts:=L.ts) (by simp[h.s.ts]) aA) (λj E=>by
  cases j<;>first|rfl|exact absurd rfl E|skip
  ·rename_i m;by_cases hm:t=m
   ·subst hm;simp only[CH,zO u,hx,hg];rfl
   ·simp only[CH,zm hm]
  ·rename_i m;by_cases hm:t=m
   ·subst hm;simp only[CH,zO u,hx,hg];rfl
   ·simp only[CH,zm hm]) e (λb y=>.inl y) (by simp only[CH,z];exact D)
 exact hK σ' N (J.mono (λb _ hx=>by
  rcases hx with hx|hx
  ·exact hx.1
  ·exact M b hx) h.o h.o2)
end Go.Ar
namespace Go.Ar
open Go Go.Vc Go.Proofs
open Go.Bu (Zg QW Zv jH)
variable {σ:Hp}{F H:Rg}{p hs:Nat}{A:AR}{sp:Sp}{Y:Lay}{T:Nat->Hp->Rg->Prop}
theorem Wjc {s:Sl}{tb:List bY}(h:cT s 3 (gA tb) σ F)(hl:tb.length<=40){R:Sl->Hp->Prop}(hR:∀s' σ',bO σ σ'->cT s' 3 (gA tb) σ' (λb=>σ.size<=b)->R s' σ'):Wc.c s σ R:=by
 refine Wc.o ?_;have a:=h.1;rw[KT]at a;exact BM h aB rfl Mn aB O λs' σ' _ e d=>hR s' σ' e d.gE
end Go.Ar
namespace Go.Ar
open Go Go.Vc Go.Proofs
variable {σ:Hp}{F:Rg}{L:dQ}{H:Hw}{t k:Nat}
theorem KN (h:HH σ F L H){R:aO}(hR:R true σ):WN.c (aW L.p) σ R:=by
 refine WN.o ?_;have a:=h.jX;have b:=h.s.t1;refine bZ.intro (cJ rfl (aG (h.hd.rS rfl ?_)));rw[zT aC];exact hR
theorem Mb (h:HH σ F L H)(x:Int){R:aO}(hR:R (decide (0<=x/\x<(H.bR.length:Int))) σ):YU.c (aW L.p) x σ R:=by
 refine YU.o ?_;have b:=h.jX;refine bZ.intro (cI (λa=>aG (h.hd.rS rfl ?_)) λa=>?_)
 ·have:decide (x<((L.cL.len:Nat):Int))=decide (0<=x/\x<(H.bR.length:Int)):=by rw[decide_eq_decide,b];omega
  simp only[this];exact hR
 ·rw[zg O]at hR;exact hR
theorem MG (h:HH σ F L H)(t:Nat){R:aN}(hR:R ((H.own t:Nat):Int) σ):ZI.c (aW L.p) (t:Int) σ R:=by
 refine ZI.o ?_;have a:=h.lL;have b:=h.s.a1;refine aG (h.hd.rS rfl (nz aC ?_));have:((t:Int).tmod ((L.fZ.len:Nat):Int))=((H.own t:Nat):Int):=by rw[Kj O,a];unfold Hw.own;omega
 simp only[this];exact hR
theorem Ic (h:HH σ F L H)(x:Int)(hx9:x<=9223372036854775807){R:aN}(hR:∀σ',bO σ σ'->R (YM H.bT x) σ'):Yj.c (aW L.p) x σ R:=by
 refine Yj.o ?_;refine nw (cs:=[.int .i64 x]) λv Z e Q=>Q.Ai rfl ?_;have P:=h.bK e;by_cases hx:x<0
 ·have:=hR v e;unfold YM at this;rw[zB hx]at this;exact oK hx this
 refine fJ hx (aG (P.hd.rS rfl ?_));have hl:=h.lL;have W:=h.s.a2;refine Wk.o ?_;refine ZV (a:=bN) (λ(z:Int) w=>∃i:Nat,z=(i:Int)/\i<=H.bT.length/\bO σ w/\HH w F L H/\bX w σ.size [.int .i64 x]/\∀j A,j<i->H.bT[j]?=some A->V7 A (x/256)=false) (λz _=>H.bT.length-z.toNat) ⟨0,rfl,O,e,P,Q,λj A d=>O⟩ ?_;rintro z w ⟨i,rfl,hi,K,N,r,b⟩;refine cI (λy=>?_) λM=>?_
 ·simp only at y;have C:i<H.bT.length:=by omega
  have g:H.bT[i]?=some H.bT[i]:=cM C;generalize H.bT[i]=A at g;obtain⟨Y,U,S,E⟩:=N.ar g;refine N.rA U (Gm (all := #[.pointer (some ⟨Y.p,0,none⟩),.pointer (some ⟨σ.size,0,none⟩)]) (by kernel_rfl) aA ?_);refine Zh.o ?_;refine r.Ai rfl (nz aB (ar (by rw[Yb O];omega) (by rw[Yb O];omega) ?_));rw[Yb O];refine Ω E (x/256) (cU (λV=>?_) λX=>?_)
  ·have:YM H.bT x=(i:Int):=by
    unfold YM;rw[zA hx];have:H.bT.findIdx? (λA=>V7 A (x/256))=some i:=by
     obtain⟨G,rfl⟩:=cQ.1 g;exact rJ.2 ⟨G,V,λj d=>by rw[b j _ d (cM O)];simp⟩
    rw[this]
   have u:=hR w K;rw[this]at u;exact u
  ·exact cA (m:=i+1) O O ⟨⟨i+1,rfl,O,K,N,r,λj B d J=>by
    by_cases e:j=i
    ·subst e;rw[g]at J;cases J;exact X
    ·exact b j B O J⟩,O⟩
 ·have D:i=H.bT.length:=by simp only at M;omega
  subst D;have:YM H.bT x = -1:=by
   unfold YM;rw[zA hx];have:H.bT.findIdx? (λA=>V7 A (x/256))=none:=by
    rw[y8];intro A g;obtain⟨j,d⟩:=zM g;exact b j A (cQ.1 d).1 d
   rw[this]
  have u:=hR w K;rw[this]at u;exact u
theorem PF (h:HH σ F L H){R:Int->Int->Int->Int->Int->Hp->Prop}(hR:∀σ',bO σ σ'->R (H.cf.aF:Int) (H.cf.iO:Int) (H.cf.threads:Int) (H.cf.dD:Int) (H.cf.room:Int) σ'):Za.c (aW L.p) σ R:=by
 refine Za.o ?_;refine nw (cs:=[.int .i64 0,.int .i64 0,.int .i64 0,.int .i64 0,.int .i64 0]) λv r e m=>KN (h.bK e) (cG rfl ?_);have hd:=(h.bK e).hd;refine aG (hd.gG rfl (hd.gG rfl (hd.gG rfl (hd.gG rfl (hd.gG rfl ?_)))));refine m.s1 aA λs o1 g=>g.s1 aA λw o2 j=>j.s1 aA λv3 o3 b=>b.s1 aA λu o4 d=>d.s1 aA λi o5 a=>?_;refine a.rI rfl (a.rI rfl (a.rI rfl (a.rI rfl (a.rI rfl (hR i ?_)))));exact((((e.only o1 (.inr (zD _))).only o2 (.inr (zD _))).only o3 (.inr (zD _))).only o4 (.inr (zD _))).only o5 (.inr (zD _))
theorem I4 (h:HH σ F L H)(hl:H.tb.length<=40){R:Sl->Hp->Prop}(hR:∀s σ',bO σ σ'->cT s 3 (gA H.tb) σ' (λb=>σ.size<=b)->R s σ'):YX.c (aW L.p) σ R:=by
 refine YX.o ?_;exact KN h (cG rfl (aG (h.hd.rS rfl (Wjc h.lF hl hR))))
theorem Wiz (h:HH σ F L H){R:Option Addr->Hp->Prop}(hR:R (some ⟨L.hs,0,none⟩) σ):Zs.c (aW L.p) σ R:=by
 refine Zs.o ?_;exact KN h (cG rfl (aG (h.hd.rP rfl hR)))
theorem Su (h:HH σ F L H)(gc:Gc σ)(x v:Int)(hx:x<=9223372036854775807){R:aN}(hR:∀σ',Ext F σ σ'->HH σ' (Grow F σ) L {H with sp:=U5 H.sp x v}->R (lR H.sp x) σ'):Zr.c (aW L.p) x v σ R:=by
 refine Zr.o ?_;obtain⟨G,r,j,d,a⟩:=h.A4;refine Wiz h (Sb j h.g gc x hx v λσ' e b=>?_);obtain⟨m,i⟩:=a σ' _ e b;exact hR σ' m i
theorem Uh (h:HH σ F L H)(ht:t<H.bR.length){R:Value->Hp->Prop}(hR:R (rf (mX H t)) σ):W7.c (aW L.p) (t:Int) σ R:=by
 refine W7.o ?_;obtain⟨x,g,b,a⟩:=h.th ht;refine aG (h.hd.rS rfl (h.tS b a ?_));obtain⟨G,i,d⟩:=h.sep.get (.hn t);simp only[CH,b,a,sT]at d;have e:=d.len;unfold mX at hR;rw[a]at hR;simp only at hR;by_cases h0:g.bP=[]
 ·rw[zB h0]at hR;exact cJ (by rw[e,h0];rfl) hR
 ·rw[zA h0]at hR;have:=uf.2 h0;exact cG (by simp only[qA];omega) hR
theorem Er (h:HH σ F L H)(x size cls:Int)(hx9:x<=9223372036854775807){R:Value->Int->Int->Hp->Prop}(hR:∀σ',Ext F σ σ'->HH σ' F L (VW H x size cls)->R .nilIface x 0 σ'):Y1.c (aW L.p) x size cls σ R:=by
 refine Y1.o ?_;refine nw (cs:=[.int .i64 0,.int .i64 0]) λv G e a=>?_;have m:=h.cut.bK e;refine⟨λu=>bO v u,Ext.refl _ _,aG ⟨some L.lm,λu E=>by rw[add_lit,((m.bK E).hd).cell];rfl,?_⟩⟩;refine Ic m x hx9 λJ g=>⟨g,?_⟩;have w:=m.bK g;obtain⟨D,d⟩:=w.vT;refine⟨L.lm,_,rfl,w.mR,λs o2 j=>?_⟩;obtain⟨B,A⟩:=d s _ o2 j;have r:bX s σ.size [.int .i64 0,.int .i64 0]:=Ws o2 (g.bV a id) (by have:=D.2;omega);refine r.s1 aA λv3 o3 z=>z.s1 aA λv4 o4 y=>y.rI rfl (y.rI rfl (hR v4 ?_ ?_))
 ·exact(((bO.to (e.trans g)).trans (B.sub λb a=>a.1)).only o3 (.inr (zD _))).only o4 (.inr (zD _))
 ·have i:Ext (· = σ.size) s v4:=o3.ext.trans o4.ext;have C:=h.AN A i (λb a=>O) (λb _ a K=>by have:=a.2;omega);exact C.mono (λb _ a=>a.1) h.o h.o2
theorem C8 (h:HH σ F L H)(ht:t<H.bR.length)(k:Nat){s:Sl}{xs:List Int}{X:Rg}(hs:cT s 1 (Wv xs) σ X)(hc:s.len<=s.cap)(hxs:xs≠[])(hX:∀b,b<σ.size->X b->¬F b)(oX:jS X)(oX2:¬X 1)(hlen:∀g,H.bR[t]?=some g->g.bP.length<=1000){R:aP}
 (hR:∀σ' ts',Ext F σ σ'->HH σ' (λb=>Grow F σ b\/X b) {L with ts:=ts'} (Q2 H t k xs)->R σ'):YC.c (aW L.p) (t:Int) (k:Int) s σ R:=by
 refine YC.o ?_;obtain⟨x,g,r,U⟩:=h.th ht;have htl:=Gn h.s.ts;have hrl:=h.jX;have hlen:=hlen g U;obtain⟨G,D,hG,Z,hd,hB,hr,⟨E,hE1,hE2,hhd⟩,ac⟩:=h.cut.vM r U (λb=>σ.size<=b\/b<σ.size/\X b) (λb m hf hn=>by
  rcases hn with hn|hn
  ·omega
  ·exact hX b m hn.2 hf.1) (λb m=>m.elim (h.qh.1 b) λm=>oX b m.2) (λm=>m.elim h.qh.2 λm=>oX2 m.2)
 obtain⟨Y,Dn,A,J,N,hj,aa⟩:=hB;have B:∀u,Ext G σ u->bX u L.p (xq L H.cf):=λu z=>((iW.loc _ _).bU hhd z λb _ m r=>hE1 b m r).2;have S:∀u,Ext G σ u->bS L.cL 3 (iG L.ts H.bR) u D:=λu z=>aI.bU hr z λb _ m r=>hd b r m;refine⟨λu=>Ext G σ u,Ext.refl _ _,aG ⟨L.cL,λu z=>by rw[add_lit,(B u z).cell];rfl,aG ⟨L.cL,λu z=>by rw[add_lit,(B u z).cell];rfl,?_⟩⟩⟩;refine Dw (bS.gE hr) h.s.ts r U (d:=1) O rfl λb o ha _=>⟨x.h,λu z=>?_,?_⟩
 ·obtain⟨b',o',V,hc'⟩:=UB (bS.gE (S u z)) r U (d:=1) O rfl;rw[ha]at V;cases V;rw[add_lit,show o+3*t+1=o+(3*t+1) by omega];exact hc'
 refine nw (cs:=[.int .i64 (k:Int),.slice s.a s.len s.cap]) λv hz e m=>⟨bO.to e,?_⟩;have C:=(dO.loc _ _ _).bK ((dO.loc _ _ _).cut A) e;have P:=(nW.loc _ _).bK ((nW.loc _ _).cut J) e;have hs1:=aH.bK (aH.cut hs) e;have hpl:x.h.len=Y.length:=by have:=A.1;rw[KR]at this;omega
 have hpg:Y.length=g.bP.length:=J.1;refine C.app (ys:=sE (k,s)) rfl rfl ?_ (λv hv=>HL (l:=[(k,s)]) v (by simpa[fN]using hv)) ?_ ?_ qW λs' v2 hl2 e2 hr2=>?_
 ·intro j u z;rw[add_lit,zI,m.cell];exact z
 ·simp only;have:(x.h.len+1)*32<=1001*32:=nC O O;omega
 ·simp only;omega
 have hs2:=e2.1;have eG:Ext G σ v2:=(bO.to e).trans (e2.sub λb m=>m.1.1);refine⟨eG,?_⟩;obtain⟨b0,ab⟩:∃b,L.cL.a=some ⟨b,0,none⟩:=by
  rcases hr.2 with⟨h0,_⟩|⟨b,_,_,ha,_⟩
  ·omega
  ·exact⟨b,ha⟩
 rw[ab];refine ix O O ?_;refine(S v2 eG).st (j:=3*t+1) O (λb' W=>by rw[ab]at W;cases W;rw[add_lit,add_lit];congr 1;omega) λσ' Q hr3=>?_;have hs3:=Q.1;have e03:Ext (λb=>G b\/D b) σ σ':=(eG.sub λb m=>.inl m).trans (Q.sub λb m=>.inr m);have hr4:=(dO.loc _ _ _).bU ((dO.loc _ _ _).cut hr2) Q λb _ m r=>by
  rcases m.1 with h1|h1
  ·exact hd b h1.1.1 r
  ·have:=(Z b r).2;omega
 have hB4:=(nW.loc _ _).bU ((nW.loc _ _).bU P e2 λb _ m r=>r.1.2 m.1) Q λb _ m r=>hd b (N b m.1) r;have hs4:=aH.bU (aH.bU hs1 e2 λb m r w=>hX b r.2 r.1 (hG b w.1.1).1) Q λb _ r w=>hX b r.2 r.1 (Z b w).1;have hBt:iK s' (g.bP++[(k,xs)]) σ' (λb=>G b/\b<σ.size\/b<σ.size/\X b\/v.size<=b/\b<v2.size):=by
  refine⟨Y++[(k,s)],λb=>Dn b/\b<σ.size\/b<σ.size/\X b,?_,⟨by simp[hpg],λi p y M w=>?_⟩,λb m=>?_,hj.snoc J aa hs hxs (λb m r w=>hX b m w (hG b (N b r)).1) k,λy w=>?_⟩
  ·rw[Hc];have:fN [(k,s)]=sE (k,s):=by simp[fN]
   rw[this];refine(dO.loc _ _ _).mono hr4 λq _ K=>?_;rcases K.1 with h1|h1
   ·exact⟨.inl ⟨h1.1.1,h1.2⟩,λr=>by
     rcases r with r|r
     ·exact h1.1.2 r.1
     ·exact hX q r.1 r.2 (hG q h1.1.1).1⟩
   ·exact⟨.inr (.inr ⟨h1,K.2⟩),λr=>by
     rcases r with r|r<;>omega⟩
  ·rcases pA i Y.length with hi|hi
   ·rw[zh hi]at M;rw[zh O]at w;obtain⟨a1,a2,a3⟩:=hB4.2 i p y M w;exact⟨a1,aH.mono a2 λq _ K=>.inl K,a3⟩
   ·rw[zp hi]at M;rw[zp O]at w;have hi0:i-Y.length=0:=by
     have:=(cQ.1 M).1;simp at this;omega
    rw[hi0]at M;rw[show i-g.bP.length=0 by omega]at w;simp at M w;subst M;subst w;exact⟨rfl,aH.mono hs4 λq _ K=>.inr ⟨K.2,K.1⟩,hc⟩
  ·rcases m with m|m
   ·exact .inl ⟨N b m.1,m.2⟩
   ·exact .inr (.inl m)
  ·rcases zU.1 w with h1|h1
   ·exact aa y h1
   ·rw[zZ]at h1;subst h1;exact hxs
 obtain⟨eF,h4⟩:=ac σ' s' (g.bP++[(k,xs)]) (λb=>G b/\b<σ.size\/b<σ.size/\X b\/v.size<=b/\b<v2.size) D e03 (λb m=>by
  rcases m with m|m|m
  ·exact .inl (.inl m.1)
  ·exact .inr (.inr m)
  ·exact .inr (.inl O)) (λb m=>.inl (.inr m)) (λb m r=>by
  have:=(Z b r).2;rcases m with m|m|m
  ·exact hd b m.1 r
  ·exact hX b m.1 m.2 (Z b r).1
  ·omega) hBt hr3
 refine hR σ' (L.ts.set t {x with h:=s'}) (eF.sub λb m=>m.1) ?_;have e5:Q2 H t k xs = {H with bR:=H.bR.set t {g with bP:=g.bP++[(k,xs)]}}:=by
  unfold Q2 Hw.eA
  congr 1
  exact Vn U
 rw[e5];refine h4.mono (λb _ m=>?_) (λb (m:Grow F σ b\/X b)=>m.elim (h.oG b) (oX b)) λ(m:Grow F σ _\/X _)=>m.elim h.vj oX2;rcases m with m | (m|m|m)|m
 ·exact .inl (.inl m.1.1)
 ·exact .inl (.inl (hG b m.1).1)
 ·exact .inr m.2
 ·exact .inl (.inr O)
 ·exact .inl (.inl (Z b m).1)
end Go.Ar
namespace Go.Ar
open Go Go.Vc Go.Proofs
variable {σ u u':Hp}{F B P:Rg}{L:dQ}{H H':Hw}{t k n:Nat}{A:AR}{Y:Lay}{x:eD}{g:Th}{c:bY}{l:Li}{cs:List Value}
structure HK (F:Rg) (σ:Hp) (B:Rg) (u:Hp) (P:Rg) (L:dQ) (H:Hw):Prop where
 h:HH u P L H
 e:Ext F σ u
 p:∀b,P b->(F b/\b<σ.size\/σ.size<=b)/\¬B b/\b<u.size
 b:∀b,B b->σ.size<=b/\b<u.size
 o:jS (λb=>σ.size<=b)/\¬σ.size<=1
theorem HK.start (h:HH σ F L H):HK F σ (λ_=>False) σ (Cut F σ) L H:=⟨h.cut,Ext.refl _ _,λb a=>⟨.inl ⟨a.1,a.2⟩,id,a.2⟩,λb a=>a.elim,h.qh⟩
theorem HK.box (K:HK F σ B u P L H)(e:bO u u')(hz:u'.size=u.size+1):HK F σ (λb=>B b\/b=u.size) u' P L H:=
 ⟨K.h.bK e,K.e.trans (bO.to e),λb a=>⟨(K.p b a).1,λd=>d.elim (K.p b a).2.1 λg=>by have:=(K.p b a).2.2;omega,by have:=(K.p b a).2.2;omega⟩,λb a=>by
  have:=K.e.1;rcases a with a|a
  ·have:=K.b b a;omega
  ·omega,K.o⟩
theorem HK.fr (K:HK F σ B u P L H)(e:bO u u'):HK F σ B u' P L H:=
 ⟨K.h.bK e,K.e.trans (bO.to e),λb a=>⟨(K.p b a).1,(K.p b a).2.1,by have:=(K.p b a).2.2;have:=e.1;omega⟩,λb a=>by have:=K.b b a;have:=e.1;omega,K.o⟩
theorem HK.own (K:HK F σ B u P L H)(o:QJ u u' n)(hn:B n):HK F σ B u' P L H:=by
 have s:=K.b n hn;have r:=o.1;have e:Ext (· = n) u u':=o.ext;have m:∀b,b<u.size->P b->¬(b=n):=λb _ a g=>(K.p b a).2.1 (g▸hn);have d:jS (λb=>b=n)/\¬(1=n):=⟨K.o.1.sub λb i=>O,λi=>K.o.2 O⟩;exact⟨K.h.bU e m d.1 d.2,K.e.fH e λb (j:b=n)=>.inr O,λb a=>⟨(K.p b a).1,(K.p b a).2.1,by have:=(K.p b a).2.2;omega⟩,λb a=>by have:=K.b b a;omega,K.o⟩
theorem HK.cW (K:HK F σ B u P L H)(e:Ext P u u')(hb:bX u n cs)(hn:B n):bX u' n cs:=e.bV hb λa=>(K.p n a).2.1 hn
theorem HK.xy (K:HK F σ B u P L H){Q:Rg}{L':dQ}(e:Ext P u u')(h:HH u' Q L' H')(hq:∀b,b<u'.size->Q b->P b\/u.size<=b\/(F b/\b<σ.size\/σ.size<=b)/\¬B b):HK F σ B u' (Cut Q u') L' H':=by
 have g:=e.1;have i:=K.e.1;refine⟨h.cut,K.e.fH e λb a=>(K.p b a).1.imp (λh=>h.1) id,λb a=>⟨?_,λd=>?_,a.2⟩,λb a=>by have:=K.b b a;omega,K.o⟩
 ·rcases hq b a.2 a.1 with h1|h1|h1
  ·exact(K.p b h1).1
  ·exact .inr O
  ·exact h1.1
 ·rcases hq b a.2 a.1 with h1|h1|h1
  ·exact(K.p b h1).2.1 d
  ·have:=K.b b d;omega
  ·exact h1.2 d
theorem HK.to (K:HK F σ B u P L H){Q:Rg}{L':dQ}(e:Ext P u u')(h:HH u' Q L' H')(hq:∀b,b<u'.size->Q b->P b\/u.size<=b):HK F σ B u' (Cut Q u') L' H':=K.xy e h λb d a=>(hq b d a).imp id .inl
theorem HK.fin (K:HK F σ B u P L H){L0:dQ}{H0:Hw}(h0:HH σ F L0 H0):HH u (Grow F σ) L H:=h0.grown K.h λb _ a=>(K.p b a).1.imp (λh=>h.1) id
def Fr (A' A:AR):Prop:=A'.tb=A.tb/\A'.room=A.room/\A'.cE=A.cE
theorem Fr.cF {A' A:AR}(h:Fr A' A)(Y:Lay):Go.Ar.cF A' Y=Go.Ar.cF A Y:=by
 funext k;unfold Go.Ar.cF;rw[h.1,h.2.1,h.2.2]
theorem MC (A:AR)(k m:Int):Fr (YR A k m) A:=by
 unfold YR;split<;>exact⟨rfl,rfl,rfl⟩
theorem LB (A:AR)(k:Int)(xs:List Int):Fr (Zf A k xs) A:=⟨(VS A k xs).1,(VS A k xs).2.1,(VS A k xs).2.2.1⟩
theorem JZ (A:AR)(sp:Sp)(m a no:Nat):Fr (dA A sp m a no).2.1 A:=⟨(GP A sp m a no).1,(GP A sp m a no).2.2.2.1,(GP A sp m a no).2.2.1⟩
theorem LR (A:AR)(x:Int):Fr (QO A x) A:=by
 unfold QO;split<;>exact⟨rfl,rfl,rfl⟩
theorem Jr (A:AR)(sp:Sp)(k:Int):Fr (cO A sp k).1 A:=by
 unfold cO;split
 ·split
  ·rename_i c ss h1 h2;have h:=JZ A sp c.aF 1 (k.toNat+1);generalize dA A sp c.aF 1 (k.toNat+1)=r at h;obtain⟨o,A',a⟩:=r;cases o with
   | none=>exact h
   | some x=>
    simp only;split<;>exact h
  ·exact⟨rfl,rfl,rfl⟩
 ·exact⟨rfl,rfl,rfl⟩
theorem J0 (A:AR)(sp:Sp)(m a:Int):Fr (cD A sp m a).1 A:=by
 unfold cD;split
 ·have h:=JZ A sp m.toNat a.toNat 41;generalize dA A sp m.toNat a.toNat 41=r at h;obtain⟨o,A',b⟩:=r;cases o<;>exact h
 ·exact⟨rfl,rfl,rfl⟩
theorem Wii (A:AR)(k:Int):(ZR A k).tb=A.tb:=by unfold ZR;split<;>rfl
theorem WmX (A:AR)(k:Int)(xs:List Int):(Kh A k xs).tb=A.tb:=by unfold Kh;split<;>rfl
theorem HH.qn (h:HH σ F L H)(hk:H.bT[k]?=some A)(hy:L.ys[k]?=some Y):∃G:Rg,(∀b,G b->F b)/\cX σ G Y A (cF A Y)/\∀(σ':Hp) (A':AR) (Q:Rg),A'.tb=A.tb->Ext G σ σ'->(∀b,Q b->G b\/σ.size<=b)->cX σ' (λb=>Grow G σ b/\¬Q b) Y A' (cF A' Y) →
 Ext F σ σ'/\HH σ' (λb=>Grow F σ b/\¬Q b) L (H.cC k A'):=by
 obtain⟨Y',G,g,_,j,s,d⟩:=h.A8 hk;rw[hy]at g;cases g;refine⟨G,j,s,λσ' A' Q i e m r=>?_⟩;obtain⟨w,u⟩:=d σ' A' _ i e (λb a=>a.1) r;refine⟨w,u.mono (λb _ a=>?_) (h.oG.sub λb a=>a.1) λa=>h.vj a.1⟩;rcases a with a|a
 ·exact⟨.inl a.1,λp=>by
   rcases m b p with h2|h2
   ·exact a.2.2 h2
   ·have:=a.2.1;omega⟩
 ·exact⟨a.1.imp (j b) id,a.2⟩
theorem cX.Aa {T:Nat->Hp->Rg->Prop}{G Q:Rg}(h:cX σ G Y A T)(hq:∀b,¬Q b):cX σ (λb=>G b/\¬Q b) Y A T:=h.mono λb _ a=>⟨a,hq b⟩
theorem HH.oS (h:HH σ F L H)(hk:H.bT[k]?=some A)(hy:L.ys[k]?=some Y):∃G:Rg,(∀b,G b->F b)/\cX σ G Y A (cF A Y)/\∀(σ':Hp) (A':AR),A'.tb=A.tb->Ext G σ σ'->cX σ' (Grow G σ) Y A' (cF A' Y) →
 Ext F σ σ'/\HH σ' (Grow F σ) L (H.cC k A'):=by
 obtain⟨G,m,r,a⟩:=h.qn hk hy;refine⟨G,m,r,λσ' A' d e j=>?_⟩;obtain⟨p,i⟩:=a σ' A' (λ_=>False) d e (λb g=>g.elim) (j.Aa λ_=>id);exact⟨p,i.mono (λb _ g=>g.1) h.oG h.vj⟩
theorem G8 (h:HH σ F L H)(hk:H.bT[k]?=some A)(hy:L.ys[k]?=some Y)(c:Int){R:Sl->Int->Hp->Prop}
 (hR:∀s σ' (Q:Rg),Ext F σ σ'->(∀b,Q b->F b)->cT s 1 (Wv (YN A c)) σ' Q->s.len<=s.cap->HH σ' (λb=>Grow F σ b/\¬Q b) L (H.cC k (ZR A c))->R s (Z9 A c) σ') :
 WB.c (aW Y.p) c σ R:=by
 obtain⟨G,r,x,g⟩:=h.qn hk hy;refine G6 x c λs σ' e i u d m=>?_;obtain⟨w,j⟩:=g σ' (ZR A c) (oB s) (Wii A c) e (λb a=>.inl (i b a)) (m.mono λb _ a=>⟨.inl a.1,a.2⟩);exact hR s σ' (oB s) w (λb a=>r b (i b a)) u d j
theorem Wbq (h:HH σ F L H)(hk:H.bT[k]?=some A)(hy:L.ys[k]?=some Y)(c m:Int){R:Sl->Int->Hp->Prop}
 (hR:∀s σ' (Q:Rg),Ext F σ σ'->(∀b,Q b->σ.size<=b)->bS s 1 (ints (Yu A c m)) σ' Q->HH σ' (λb=>Grow F σ b/\¬Q b) L (H.cC k (YR A c m))->R s (QL A c m) σ') :
 WG.c (aW Y.p) c m σ R:=by
 obtain⟨G,x,w,d⟩:=h.qn hk hy;refine Wbt w c m λs σ' e r j=>?_;have g:cF (YR A c m) Y=cF A Y:=(MC A c m).cF Y;obtain⟨u,i⟩:=d σ' (YR A c m) (λb=>σ.size<=b) (MC A c m).1 e (λb a=>.inr a) (by rw[g];exact j.mono λb _ a=>⟨.inl a.1,by have:=a.2;omega⟩);exact hR s σ' _ u (λb a=>a) r i
theorem SY (h:HH σ F L H)(hk:H.bT[k]?=some A)(hy:L.ys[k]?=some Y)(c:Int){sl:Sl}{xs:List Int}{X:Rg}(hs:cT sl 1 (Wv xs) σ X)(hi:∀x∈xs,iX x){R:Bool->Int->Hp->Prop}
 (hR:∀σ',Ext F σ σ'->HH σ' (Grow F σ) L (H.cC k (Kh A c xs))->R (Vu A c xs) (HU A c xs) σ'):WL.c (aW Y.p) c sl σ R:=by
 obtain⟨G,j,i,a⟩:=h.oS hk hy;refine RF i c hs hi λσ' e d=>?_;obtain⟨g,b⟩:=a σ' _ (WmX A c xs) e d;exact hR σ' g b
theorem Sq (h:HH σ F L H)(hk:H.bT[k]?=some A)(hy:L.ys[k]?=some Y)(c:Int){sl:Sl}{xs:List Int}{X:Rg}(hs:cT sl 1 (Wv xs) σ X)(hX:∀b,b<σ.size->X b->¬F b)(hi:∀x∈xs,iX x)(hl:xs.length<=1000000)(hcap:sl.len<=sl.cap){R:aN}
 (hR:∀σ',Ext F σ σ'->HH σ' (Grow F σ) L (H.cC k (Zf A c xs))->R (Q5 A c xs) σ'):WE.c (aW Y.p) c sl σ R:=by
 obtain⟨G,j,w,a⟩:=h.oS hk hy;refine GU w c hi hl hcap (.inl ⟨X,hs,λb r m u=>hX b r m (j b u)⟩) λσ' e i=>?_;have d:cF (Zf A c xs) Y=cF A Y:=(LB A c xs).cF Y;obtain⟨s,g⟩:=a σ' _ (LB A c xs).1 e (by rw[d];exact i);exact hR σ' s g
theorem SZ (h:HH σ F L H)(hk:H.bT[k]?=some A)(hy:L.ys[k]?=some Y)(x:Int)(hf:∀r∈A.runs,r.1<=1000000){R:aN}
 (hR:∀σ',Ext F σ σ'->HH σ' (Grow F σ) L (H.cC k (QO A x))->R (Ve A x) σ'):WV.c (aW Y.p) x σ R:=by
 obtain⟨G,m,j,a⟩:=h.oS hk hy;refine WdL j x hf λσ' e g=>?_;have b:cF (QO A x) Y=cF A Y:=(LR A x).cF Y;obtain⟨i,d⟩:=a σ' _ (LR A x).1 e (by rw[b];exact g);exact hR σ' i d
theorem S6 (h:HH σ F L H)(hk:H.bT[k]?=some A)(hy:L.ys[k]?=some Y)(c:Int){R:aN}
 (hR:∀σ',Ext F σ σ'->HH σ' (Grow F σ) L {H.cC k (cO A H.sp c).1 with sp:=(cO A H.sp c).2}->R (Va A H.sp c) σ'):Ys.c (aW Y.p) c σ R:=by
 obtain⟨Y',G,D,a,_,i,b⟩:=h.oI hk;rw[hy]at a;cases a;refine Wkh i c λσ' G' D' r e j=>?_;have d:cF (cO A H.sp c).1 Y=cF A Y:=(Jr A H.sp c).cF Y;obtain⟨m,g⟩:=b σ' _ _ G' D' (Jr A H.sp c).1 e r (by rw[d];exact j);exact hR σ' m g
theorem OW (h:HH σ F L H)(hk:H.bT[k]?=some A)(hy:L.ys[k]?=some Y)(m a:Int){R:Int->Int->Hp->Prop}
 (hR:∀σ',Ext F σ σ'->HH σ' (Grow F σ) L {H.cC k (cD A H.sp m a).1 with sp:=(cD A H.sp m a).2}->R ((Z7 A H.sp m a:Nat):Int) (QG A H.sp m a) σ'):WT.c (aW Y.p) m a σ R:=by
 obtain⟨Y',G,D,b,_,j,d⟩:=h.oI hk;rw[hy]at b;cases b;refine PN j m a λσ' G' D' u e r=>?_;have g:cF (cD A H.sp m a).1 Y=cF A Y:=(J0 A H.sp m a).cF Y;obtain⟨s,i⟩:=d σ' _ _ G' D' (J0 A H.sp m a).1 e u (by rw[g];exact r);exact hR σ' s i
def Hw.dY (H:Hw)(t:Nat)(g:Th)(ls:List Li):Hw:={H with bR:=H.bR.set t {g with ls:=ls}}
theorem HH.pq (h:HH σ F L H)(hx:L.ts[t]?=some x)(hg:H.bR[t]?=some g):∃G:Rg,(∀b,G b->F b)/\eB σ G x.c H.tb H.cf.dD g.ls/\∀(σ':Hp) (ls:List Li) (Y':iE) (Q:Rg),Y'.p=x.c.p->Ext G σ σ'->(∀b,Q b->σ.size<=b)->eB σ' (λb=>Grow G σ b/\¬Q b) Y' H.tb H.cf.dD ls →
 Ext F σ σ'/\HH σ' (λb=>Grow F σ b/\¬Q b) {L with ts:=L.ts.set t {x with c:=Y'}} (H.dY t g ls):=by
 obtain⟨G,i,r,d⟩:=h.tu hx hg;refine⟨G,i,r,λσ' ls Y' Q w e m u=>?_⟩;obtain⟨y,j⟩:=d σ' ls Y' _ w e (λb a=>a.1) u;refine⟨y,j.mono (λb _ a=>?_) (h.oG.sub λb a=>a.1) λa=>h.vj a.1⟩;rcases a with a|a
 ·exact⟨.inl a.1,λs=>by have:=a.2.1;have:=m b s;omega⟩
 ·exact⟨a.1.imp (i b) id,a.2⟩
theorem HH.oP (h:HH σ F L H)(hx:L.ts[t]?=some x)(hg:H.bR[t]?=some g):∃G:Rg,(∀b,G b->F b)/\eB σ G x.c H.tb H.cf.dD g.ls/\∀(σ':Hp) (ls:List Li) (Y':iE),Y'.p=x.c.p->Ext G σ σ'->eB σ' (Grow G σ) Y' H.tb H.cf.dD ls →
 Ext F σ σ'/\HH σ' (Grow F σ) {L with ts:=L.ts.set t {x with c:=Y'}} (H.dY t g ls):=by
 obtain⟨G,s,j,d⟩:=h.pq hx hg;refine⟨G,s,j,λσ' ls Y' r e m=>?_⟩;obtain⟨u,i⟩:=d σ' ls Y' (λ_=>False) r e (λb a=>a.elim) (m.mono λb _ a=>⟨a,id⟩);exact⟨u,i.mono (λb _ a=>a.1) h.oG h.vj⟩
theorem RM (h:HH σ F L H)(hx:L.ts[t]?=some x)(hg:H.bR[t]?=some g)(hc:H.tb[k]?=some c)(hl:g.ls[k]?=some l){R:Int->Int->Hp->Prop}
 (hR:∀σ' ts',Ext F σ σ'->HH σ' (Grow F σ) {L with ts:=ts'} (H.dY t g (g.ls.set k (Km c l).2))->R ((Km c l).1.getD 0) (if(Km c l).1.isSome then 0 else 4) σ'):Yt.c (aW x.c.p) (k:Int) σ R:=by
 obtain⟨G,r,d,a⟩:=h.oP hx hg;refine oW d hc hl λσ' Y' e j i=>?_;obtain⟨m,b⟩:=a σ' _ Y' j e i;exact hR σ' _ m b
theorem Wl7 (h:HH σ F L H)(hx:L.ts[t]?=some x)(hg:H.bR[t]?=some g)(hc:H.tb[k]?=some c)(hl:g.ls[k]?=some l){R:Int->Int->Hp->Prop}
 (hR:∀σ' ts',Ext F σ σ'->HH σ' (Grow F σ) {L with ts:=ts'} H->R ((tW c l:Nat):Int) 0 σ'):Yp.c (aW x.c.p) (k:Int) σ R:=by
 obtain⟨G,s,d,a⟩:=h.oP hx hg;refine Wna d hc hl λσ' Y' e m j=>?_;obtain⟨r,b⟩:=a σ' _ Y' m e j;have i:H.dY t g g.ls=H:=by
  unfold Hw.dY;rw[Qq hg]
 rw[i]at b;exact hR σ' _ r b
theorem Ss (h:HH σ F L H)(hx:L.ts[t]?=some x)(hg:H.bR[t]?=some g)(hc:H.tb[k]?=some c)(hl:g.ls[k]?=some l){sl:Sl}{xs:List Int}{X:Rg}(hs:cT sl 1 (Wv xs) σ X)(hX:∀q,X q->¬F q)(hfit:l.os.length+xs.length<=256){R:aN}
 (hR:∀σ' ts',Ext F σ σ'->HH σ' (Grow F σ) {L with ts:=ts'} (H.dY t g (g.ls.set k (eM xs.reverse l)))->R 0 σ'):Yd.c (aW x.c.p) (k:Int) sl σ R:=by
 obtain⟨G,r,d,a⟩:=h.oP hx hg;refine Wng d hc hl hs (λq i hg=>hX q i (r q hg)) hfit λσ' Y' e m j=>?_;obtain⟨s,b⟩:=a σ' _ Y' m e j;exact hR σ' _ s b
theorem R4 (h:HH σ F L H)(hx:L.ts[t]?=some x)(hg:H.bR[t]?=some g)(hc:H.tb[k]?=some c)(hl:g.ls[k]?=some l)(y:Int){R:Sl->Int->Hp->Prop}
 (hR:∀σ' ts' s e (Q:Rg),Ext F σ σ'->(∀q,Q q->σ.size<=q)->bS s 1 (Wv (dR c y l).1) σ' Q->HH σ' (λb=>Grow F σ b/\¬Q b) {L with ts:=ts'} (H.dY t g (g.ls.set k (dR c y l).2))->R s e σ'):YW.c (aW x.c.p) (k:Int) y σ R:=by
 obtain⟨G,A,j,a⟩:=h.pq hx hg;refine Rt j hc hl y λσ' Y' s m Q e u _ d w r=>?_;obtain⟨z,i⟩:=a σ' _ Y' Q u e d r;exact hR σ' _ s m Q z d w i
theorem WkO (h:HH σ F L H)(hx:L.ts[t]?=some x)(hg:H.bR[t]?=some g){R:aO}(hR:∀σ',bO σ σ'->R (decide (H.cf.dD<Qm H.tb g.ls)) σ'):Yo.c (aW x.c.p) σ R:=by
 obtain⟨G,d,b,a⟩:=h.oP hx hg;exact SS b hR
theorem Rl (hso:Gw)(h:HH σ F L H)(hx:L.ts[t]?=some x)(hg:H.bR[t]?=some g){R:Sl->Hp->Prop}
 (hR:∀σ' s (Q:Rg),Ext F σ σ'->(∀q,Q q->σ.size<=q)->iK s (Ko ZZ H.tb g.ls) σ' Q->HH σ' (λb=>Grow F σ b/\¬Q b) L (H.dY t g (Kl ZZ H.tb g.ls))->R s σ'):XT.c (aW x.c.p) σ R:=by
 obtain⟨G,w,j,a⟩:=h.pq hx hg;refine Wmb hso j λσ' s Q e i m r=>?_;obtain⟨u,d⟩:=a σ' _ x.c Q rfl e i m;rw[show L.ts.set t {x with c:=x.c}=L.ts from Qq hx]at d;exact hR σ' s Q u i r d
theorem S5 (hso:Gw)(h:HH σ F L H)(hx:L.ts[t]?=some x)(hg:H.bR[t]?=some g){R:Sl->Hp->Prop}
 (hR:∀σ' s (Q:Rg),Ext F σ σ'->(∀q,Q q->σ.size<=q)->iK s (Ko KY H.tb g.ls) σ' Q->HH σ' (λb=>Grow F σ b/\¬Q b) L (H.dY t g (Kl KY H.tb g.ls))->R s σ'):Xa.c (aW x.c.p) σ R:=by
 obtain⟨G,w,j,a⟩:=h.pq hx hg;refine PS hso j λσ' s Q e i m r=>?_;obtain⟨u,d⟩:=a σ' _ x.c Q rfl e i m;rw[show L.ts.set t {x with c:=x.c}=L.ts from Qq hx]at d;exact hR σ' s Q u i r d
def qX (S:aP)(L:dQ)(tb:List bY):Prop:=∀m,S m->∃(P:Rg) (ts:List eD) (H:Hw),HH m P {L with ts:=ts} H/\H.tb=tb
theorem qX.dH {S:aP}{tb:List bY}(hS:qX S L tb){K:Sl->Prop}(hK:K L.dH):gW S .s (Addr.add ⟨L.p,0,none⟩ 0) K:=⟨L.dH,λm a=>by obtain⟨_,_,_,h,_⟩:=hS m a;rw[add_lit,h.hd.cell];rfl,hK⟩
theorem qX.fZ {S:aP}{tb:List bY}(hS:qX S L tb){K:Sl->Prop}(hK:K L.fZ):gW S .s (Addr.add ⟨L.p,0,none⟩ 7) K:=⟨L.fZ,λm a=>by obtain⟨_,_,_,h,_⟩:=hS m a;rw[add_lit,h.hd.cell];rfl,hK⟩
theorem qX.rA {S:aP}{tb:List bY}(hS:qX S L tb)(h:HH σ F L H)(hy:L.ys[k]?=some Y){K:Option Addr->Prop}(hK:K (some ⟨Y.p,0,none⟩)):Ix L.fZ.a L.fZ.len (k:Int) 1 λa=>gW S .p a K:=by
 have i:(eY (L.ys.map (·.p)))[k]?=some (.pointer (some ⟨Y.p,0,none⟩)):=by simp[eY,hy]
 obtain⟨b,o,j,_⟩:=h.qJ.cell i;have x:=(cQ.1 hy).1;have u:=h.lL;have:=h.s.ys;rw[j];refine ix O O ⟨_,λm r=>?_,hK⟩;obtain⟨_,_,_,g,_⟩:=hS m r;obtain⟨w,y,d,e⟩:=g.qJ.cell i;rw[j]at d;cases d;rw[add_lit,show o+(k:Int).toNat*1=o+k by omega];exact e
theorem qX.rC {S:aP}(hS:qX S L H.tb)(h:HH σ F L H)(hc:H.tb[k]?=some c){K:Int->Prop}(hK:K (c.size:Int)):Ix L.dH.a L.dH.len (k:Int) 3 λa=>gW S bN (a.add 0) K:=by
 have j:(gA H.tb)[3*k+0]?=some (.int .i64 (c.size:Int)):=(HQ hc).1;obtain⟨b,o,r,_⟩:=h.lF.cell j;have x:=(cQ.1 hc).1;have u:=h.r9;rw[r];refine ix O O ⟨_,λm s=>?_,hK⟩;obtain⟨_,_,_,p,e⟩:=hS m s;rw[←e]at j;obtain⟨w,y,d,g⟩:=p.lF.cell j;have d:L.dH.a=_:=d;rw[r]at d;cases d;rw[add_lit,add_lit,show o+(k:Int).toNat*3+0=o+(3*k+0) by omega];exact g
end Go.Ar
namespace Go.Ar
open Go Go.Vc Go.Proofs
variable {σ u u':Hp}{F B P Q:Rg}{L:dQ}{H H':Hw}{t k n pb:Nat}{A:AR}{Y:Lay}{x:eD}{g:Th}{c:bY}{l:Li}{cs:List Value}{parts:List (List Int)}{xs:List Int}
theorem HK.Eu (K:HK F σ B u P L H)(e:Ext B u u'){B':Rg}(hB:∀b,B' b->B b\/u.size<=b/\b<u'.size):HK F σ B' u' P L H:=by
 have r:=e.1;have j:=K.e.1;have i:jS B/\¬B 1:=⟨K.o.1.sub λb g=>(K.b b g).1,λg=>K.o.2 (K.b _ g).1⟩;refine⟨K.h.bU e (λb _ a d=>(K.p b a).2.1 d) i.1 i.2,K.e.fH e λb m=>.inr (K.b b m).1,λb a=>⟨(K.p b a).1,λg=>?_,by have:=(K.p b a).2.2;omega⟩,λb a=>?_,K.o⟩
 ·rcases hB b g with d|d
  ·exact(K.p b a).2.1 d
  ·have:=(K.p b a).2.2;omega
 ·rcases hB b a with d|d
  ·have:=K.b b d;omega
  ·omega
def sV (s:Sl):Value:=.slice s.a s.len s.cap
def qf (pb:Nat)(parts:List (List Int)):Hp->Rg->Prop:=λu Q=>∃(ps:List Sl) (Qs:Nat->Rg),ps.length=parts.length/\Q pb/\bX u pb (ps.map sV)/\(∀j b,Qs j b->Q b/\b≠pb)/\(∀j j' b,Qs j b->Qs j' b->j=j') ∧
 ∀j s xs,ps[j]?=some s->parts[j]?=some xs->dO s 1 (Wv xs) u (Qs j)
theorem qf.loc (pb:Nat)(parts:List (List Int)):dS (qf pb parts):=by
 rintro σ H F G ⟨A,Qs,D,x,r,g,B,y⟩ w i;have p:=i pb r.lt x;obtain⟨e,z⟩:=r;refine⟨A,λj b=>Qs j b/\b<σ.size,D,p.1,⟨e,p.2.trans z⟩,λj b d=>⟨(i b d.2 (g j b d.1).1).1,(g j b d.1).2⟩,λj E b a u=>B j E b a.1 u.1,λj s C a b=>(dO.loc _ _ _) _ _ _ _ (y j s C a b) w λb d m=>⟨⟨m,d⟩,(i b d (g j b m).1).2⟩⟩
theorem qf.add (h:qf pb parts u Q){a m e1 e2:Nat}(hm:m=parts.length)(ha:parts[a]?=some xs)(y:Int)(hl:xs.length<=1000000){K:aP}(hK:∀u',Ext Q u u'->qf pb (parts.set a (xs++[y])) u' (Grow Q u)->K u') :
 Ix (some ⟨pb,0,none⟩) m (a:Int) 1 λa1=>kG a1 u λt35=>Nw (.cells #[.int .i64 y] e1 (0,0)) u λn37 v4=>App t35 1 8 e2 [.int .i64 0] ⟨some n37,1,1⟩ v4 λt38 v5=>Ix (some ⟨pb,0,none⟩) m (a:Int) 1 λa39=>cY a39 (.slice t38.a t38.len t38.cap) v5 λv6=>K v6:=by
 obtain⟨B,Qs,W,S,J,A,R,N⟩:=h;have F:=(cQ.1 ha).1;have r:B[a]?=some (B[a]' O):=cM _;generalize (B[a]' O)=s at r;have i:=N a s xs r ha;have Z:s.len=xs.length:=by have:=i.1;simp[Wv]at this;omega
 refine ix O O ?_;rw[add_lit,show 0+(a:Int).toNat*1=a by omega];refine J.Cv (a:=s.a) (n:=s.len) (c:=s.cap) (by simp[r,sV]) ?_;refine nw (cs:=[.int .i64 y]) λv4 hz e d=>?_;have p:=(dO.loc _ _ _).bK ((dO.loc _ _ _).cut i) e;have G:=e.bV J id;refine p.app (x:=⟨some ⟨u.size,0,none⟩,1,1⟩) (ys:=[.int .i64 y]) rfl rfl ?_ (by simp[dP]) ?_ ?_ qW λs' v5 hl5 E M=>?_
 ·intro j w hw;rw[add_lit,zI,d.cell];exact hw
 ·simp only;omega
 ·simp only;omega
 have X:=E.1;have L:bX v5 pb (B.map sV):=E.bV G λz=>(A a pb z.1).2 rfl;refine ix O O ?_;rw[add_lit,show 0+(a:Int).toNat*1=a by omega];refine L.s0 aE λu' P g=>?_;have U:=P.1;have H:Ext (· = pb) v5 u':=P.ext;have eQ:Ext Q u u':=((bO.to e).trans (E.sub λb d=>(A a b d.1).1)).trans (H.sub λb d=>by rw[d];exact S);have V:=J.lt;refine hK u' eQ ⟨B.set a s',λj b=>Qs j b/\b<u.size\/j=a/\v4.size<=b/\b<v5.size,by simp[W],.inl S,?_,λj b d=>?_,λj j' b d g=>?_,λj s2 ys D C=>?_⟩
 ·rw[wQ];exact g
 ·rcases d with d|d
  ·exact⟨.inl (A j b d.1).1,(A j b d.1).2⟩
  ·exact⟨.inr O,O⟩
 ·rcases d with d|d<;>rcases g with g|g
  ·exact R j j' b d.1 g.1
  ·omega
  ·omega
  ·omega
 ·by_cases hja:j=a
  ·subst hja;rw[zO O]at D;rw[zO F]at C;cases D;cases C;have:=(dO.loc _ _ _).bU ((dO.loc _ _ _).cut M) H λb _ d z=>by
    rcases d.1 with h7|h7
    ·exact(A j b h7.1).2 z
    ·omega
   have Y:Wv (xs++[y])=Wv xs++[.int .i64 y]:=by simp[Wv]
   rw[Y];refine(dO.loc _ _ _).mono this λb _ d=>?_;rcases d.1 with h7|h7
   ·exact .inl h7
   ·exact .inr ⟨rfl,h7,d.2⟩
  ·rw[zm (Ne.symm hja)]at D C;have:=(dO.loc _ _ _).cut (N j s2 ys D C);have:=(dO.loc _ _ _).bU ((dO.loc _ _ _).bU ((dO.loc _ _ _).bK this e) E λb _ d z=>hja (R j a b d.1 z.1)) H λb _ d z=>(A j b d.1).2 z;exact(dO.loc _ _ _).mono this λb _ d=>.inl d
theorem qf.get (h:qf pb parts u Q){a m:Nat}(hm:m=parts.length)(ha:parts[a]?=some xs){K:Sl->Prop}(hK:∀s,dO s 1 (Wv xs) u Q->s.len=xs.length->K s):Ix (some ⟨pb,0,none⟩) m (a:Int) 1 λa1=>kG a1 u K:=by
 obtain⟨g,Qs,y,x,p,w,z,j⟩:=h;have i:=(cQ.1 ha).1;have e:g[a]?=some (g[a]' O):=cM _;generalize (g[a]' O)=s at e;have d:=j a s xs e ha;refine ix O O ?_;rw[add_lit,show 0+(a:Int).toNat*1=a by omega];refine p.Cv (a:=s.a) (n:=s.len) (c:=s.cap) (by simp[e,sV]) (hK s ((dO.loc _ _ _).mono d λb _ r=>(w a b r).1) ?_);have:=d.1;simp[Wv]at this;omega
theorem Ez {bT:List AR}{x:Int}(h:0<=YM bT x):(YM bT x).toNat<bT.length/\YM bT x=((YM bT x).toNat:Int):=by
 refine⟨?_,O⟩;unfold YM at *;split at h
 ·omega
 ·rename_i hx;rw[zA hx];split at h
  ·rename_i i hi;have:=(B9.1 hi).1;simp only[dE];exact this
  ·omega
theorem Ν {bT:List AR}{x:Int}{xs:List Int}(h:0<=YM bT x):((List.range bT.length).map (ZY bT xs)).set (YM bT x).toNat (ZY bT xs (YM bT x).toNat++[x])=(List.range bT.length).map (ZY bT (xs++[x])):=by
 have a:=Ez h;apply lX;intro j;by_cases hj:j<bT.length
 ·by_cases e:(YM bT x).toNat=j
  ·subst e;rw[zO (by simpa using hj)];simp only[zi,ry hj,zj,ZY,yw]
   congr 2
   rw[wE (by rw[←a.2];simp)];rfl
  ·rw[zm e];simp only[zi,ry hj,zj,ZY,yw];have:List.filter (λy=>YM bT y==(j:Int)) [x]=[]:=by
    rw[wH (by simp only[zY];omega)];rfl
   rw[this,lZ]
 ·rw[za aE,za aE]
theorem Ud {K:aO}{body:(Bool->Hp->Prop)->Prop}(P:aO)(h1:∀r w,P r w->K r w)(h2:∀J:Bool->Hp->Prop,(∀r w,P r w->J r w)->body J):bZ K body:=bZ.intro (h2 K h1)
theorem D8 {K:eT [.b]}{body:eT [.b]->Prop}(P:aO)(h1:∀r w,P r w->K r w)(h2:∀J:eT [.b],(∀r w,P r w->J r w)->body J):Jn [.b] K body:=Jn.intro (h2 K h1)
theorem uy {K:eT []}{body:eT []->Prop}(P:aP)(h1:∀w,P w->K w)(h2:∀J:eT [],(∀w,P w->J w)->body J):Jn [] K body:=Jn.intro (h2 K h1)
theorem VA {H:Hw}{k:Nat}{part:Nat->List Int}(j:Nat):Vq H k part (List.range (j+1))=(match (Vq H k part (List.range j)).bT[j]? with
 | some A=>if part j=[]then Vq H k part (List.range j)else(Vq H k part (List.range j)).cC j (Zf A (k:Int) (part j))
 | none=>Vq H k part (List.range j)):=by
 unfold Vq;rw[mD,pY];rfl
theorem Wd0 {H:Hw}{k:Nat}{part:Nat->List Int}(j:Nat):(Vq H k part (List.range j)).bT.length=H.bT.length:=by
 induction j with
 | zero=>rfl
 | succ j ih=>
  rw[VA];split
  ·split
   ·exact ih
   ·simp[Hw.cC,ih]
  ·exact ih
theorem WgO {H:Hw}{k:Nat}{part:Nat->List Int}(j:Nat):(Vq H k part (List.range j)).bR=H.bR:=by
 induction j with
 | zero=>rfl
 | succ j ih=>
  rw[VA];split
  ·split<;>exact ih
  ·exact ih
theorem F7 (H:Hw)(own k:Nat)(xs:List Int):(Gi H own k xs).bR=H.bR:=by
 unfold Gi;split
 ·split
  ·rfl
  ·rw[WgO];split<;>rfl
 ·rfl
def EB (F:Rg)(σ:Hp)(L:dQ)(H:Hw)(pb:Nat)(parts:List (List Int))(cs:List Value)(w:Hp):Prop:=∃Q P:Rg,HK F σ (λb=>b=σ.size\/Q b) w P L H/\qf pb parts w Q/\bX w σ.size cs/\∀b,Q b->b≠σ.size
theorem Wls (h:HH σ F L H){own:Nat}(ho:own<H.bT.length)(k:Nat){sl:Sl}{xs:List Int}{X:Rg}(hs:cT sl 1 (Wv xs) σ X)(hX:∀b,b<σ.size->X b->¬F b)(hcap:sl.len<=sl.cap)(hx:∀x∈xs,iX x/\0<=YM H.bT x)(hl:xs.length<=1000000){R:aP}
 (hR:∀σ',Ext F σ σ'->HH σ' (Grow F σ) L (Gi H own k xs)->R σ'):Zz.c (aW L.p) (own:Int) (k:Int) sl σ R:=by
 refine Zz.o ?_;have hsl:sl.len=xs.length:=by have:=hs.1;simp[Wv]at this;omega
 have ha2:=h.s.a2;have hal:=h.lL;have hs1:∀u,Ext F σ u->cT sl 1 (Wv xs) u (λb=>X b/\b<σ.size):=λu eu=>aH.bU (aH.cut hs) eu λb _ hx hf=>hX b hx.2 hx.1 hf;refine nw (cs:=[.int .i64 (k:Int),.slice sl.a sl.len sl.cap]) λv hz e d=>?_;have K1:=(HK.start h).box e hz;refine aG (K1.h.hd.rS rfl ?_);simp only;refine mk (n:=L.fZ.len) O O λv1 hz1 D hb1=>?_;have K2:=K1.box D hz1;have hb2:=D.bV d id;have W:qf v.size ((List.range H.bT.length).map (ZY H.bT [])) v1 (λb=>b=v.size):=by
  refine⟨List.replicate H.bT.length ⟨none,0,0⟩,λ_ _=>False,by simp,rfl,?_,λj b d=>d.elim,λj j' b d=>d.elim,λj s ys g h2=>?_⟩
  ·have:(List.replicate L.fZ.len [Value.slice none 0 0]).flatten=(List.replicate H.bT.length (⟨none,0,0⟩:Sl)).map sV:=by
    rw[hal];simp[sV]
   rw[←this];exact hb1
  ·simp only[zi,uK]at h2;obtain⟨a,_,rfl⟩:=h2;simp only[qy]at g;split at g
   ·cases g;exact dO.nil _ _ _ _
   ·cases g
 have ag:∀ys:List Int,L.fZ.len=((List.range H.bT.length).map (ZY H.bT ys)).length:=λys=>by simp[hal]
 refine hb2.rS rfl ?_;refine ZV (a:=bN) (λ(z:Int) w=>∃i:Nat,z=(i:Int)/\i<=xs.length/\EB F σ L H v.size ((List.range H.bT.length).map (ZY H.bT (xs.take i))) [.int .i64 (k:Int),.slice sl.a sl.len sl.cap] w) (λz _=>xs.length-z.toNat)
  ⟨0,rfl,O,λb=>b=v.size,_,⟨K2.h,K2.e,λb d=>⟨(K2.p b d).1,λhx=>(K2.p b d).2.1 (hx.imp .inr id),(K2.p b d).2.2⟩,λb d=>K2.b b (d.imp .inr id),K2.o⟩,W,hb2,λb d=>O⟩ ?_
 rintro z w ⟨i,rfl,hi,Q,P,K,W,C,hQ⟩;refine cI (λG=>?_) λad=>?_
 ·simp only at G;have hi':i<xs.length:=by omega
  have aa:xs[i]?=some xs[i]:=cM hi';generalize xs[i]=y at aa;have hy:=hx y (zE aa);refine(hs1 w K.e).tj aa (Ic K.h y hy.1 λZ D=>?_);have G:=Ez hy.2;rw[G.2];have hP1:qf v.size _ Z (λb=>Q b/\b<w.size):=(qf.loc _ _).bK ((qf.loc _ _).cut W) D;have af:((List.range H.bT.length).map (ZY H.bT (xs.take i)))[(YM H.bT y).toNat]?=some (ZY H.bT (xs.take i) (YM H.bT y).toNat):=by
   simp only[zi,ry G.1,zj]
  have hpl1:(ZY H.bT (xs.take i) (YM H.bT y).toNat).length<=1000000:=by
   have:=qB (λx=>YM H.bT x==(((YM H.bT y).toNat:Nat):Int)) (xs.take i);simp only[ZY];rw[zP]at this;omega
  refine hP1.add (ag _) af y hpl1 λw2 e2 hP2=>?_;rw[Ν hy.2]at hP2;have ht:xs.take i++[y]=xs.take (i+1):=by rw[zl,aa];rfl
  rw[ht]at hP2;have hz1:=D.1;have hz2:=e2.1;refine cA (m:=i+1) O O ⟨⟨i+1,rfl,O,λb=>(Q b/\b<w.size)\/Z.size<=b/\b<w2.size,P,(K.fr D).Eu (e2.sub λb d=>.inr d.1) λb d=>?_,(qf.loc _ _).mono hP2 λb d S=>?_,?_,λb d=>?_⟩,O⟩
  ·rcases d with d|d|d
   ·exact .inl (.inl d)
   ·exact .inl (.inr d.1)
   ·exact .inr d
  ·rcases S with S|S
   ·exact .inl S
   ·exact .inr ⟨S,d⟩
  ·exact e2.bV (D.bV C id) λhx=>hQ _ hx.1 rfl
  ·have:=(K.b σ.size (.inl rfl)).2;rcases d with d|d
   ·exact hQ b d.1
   ·omega
 ·have hii:i=xs.length:=by simp only at ad;omega
  subst hii;rw[zo]at W;obtain⟨A,hA⟩:∃A,H.bT[own]?=some A:=⟨_,cM ho⟩;obtain⟨Y,hY,_,_⟩:=h.ar hA;have M:Gi H own k xs=(if(ZY H.bT xs own).length=xs.length/\Vu A (k:Int) xs=true then H.cC own (Kh A (k:Int) xs)
   else Vq (if(ZY H.bT xs own).length=xs.length then H.cC own (Kh A (k:Int) xs)else H) k (ZY H.bT xs) (List.range H.bT.length)):=by
   unfold Gi;rw[hA]
  have hown:((List.range H.bT.length).map (ZY H.bT xs))[own]?=some (ZY H.bT xs own):=by
   simp only[zi,ry ho,zj]
  refine uy (λw=>¬((ZY H.bT xs own).length=xs.length/\Vu A (k:Int) xs=true)/\EB F σ L (if(ZY H.bT xs own).length=xs.length then H.cC own (Kh A (k:Int) xs)else H) v.size ((List.range H.bT.length).map (ZY H.bT xs)) [.int .i64 (k:Int),.slice sl.a sl.len sl.cap] w) (λw hw=>?_) λJ hJ=>?_
  ·obtain⟨hno,hw⟩:=hw;rw[zA hno]at M;generalize hH1:(if(ZY H.bT xs own).length=xs.length then H.cC own (Kh A (k:Int) xs)else H)=H1 at hw M
   have hH1l:H1.bT.length=H.bT.length:=by
    rw[←hH1];split
    ·simp[Hw.cC]
    ·rfl
   refine ZV (a:=bN) (λ(z:Int) w=>∃j:Nat,z=(j:Int)/\j<=H.bT.length/\EB F σ L (Vq H1 k (ZY H.bT xs) (List.range j)) v.size ((List.range H.bT.length).map (ZY H.bT xs)) [.int .i64 (k:Int),.slice sl.a sl.len sl.cap] w) (λz _=>H.bT.length-z.toNat) ⟨0,rfl,O,hw⟩ ?_;rintro z w ⟨j,rfl,hj,Q,P,K,W,C,hQ⟩;refine cI (λG=>?_) λad=>?_
   ·simp only at G;have hj':j<H.bT.length:=by omega
    have hpj:((List.range H.bT.length).map (ZY H.bT xs))[j]?=some (ZY H.bT xs j):=by
     simp only[zi,ry hj',zj]
    refine W.get (ag _) hpj λs U N=>?_;have hfl:=Wd0 (H:=H1) (k:=k) (part:=ZY H.bT xs) j;obtain⟨B,hB⟩:∃B,(Vq H1 k (ZY H.bT xs) (List.range j)).bT[j]?=some B:=⟨_,cM O⟩;have E:=VA (H:=H1) (k:=k) (part:=ZY H.bT xs) j;rw[hB]at E;simp only at E;refine cI (λhpos=>?_) λhz0=>?_
    ·have V:ZY H.bT xs j≠[]:=λe=>by rw[e]at N;simp at N;omega
     rw[zA V]at E;obtain⟨Y,hY,_,_⟩:=K.h.ar hB;refine aG (K.h.hd.rS rfl (K.h.rA hY (C.rI rfl ?_)));refine Sq K.h hB hY (k:Int) (dO.gE U) (λb _ S hp=>(K.p b hp).2.1 (.inr S)) (λx ae=>(hx x (zF.1 ae).1).1) ?_ (dO.cap U) λZ D g=>?_
     ·have:=qB (λx=>YM H.bT x==(j:Int)) xs;simp only[ZY];omega
     ·have hz1:=D.1;rw[←E]at g;refine cA (m:=j+1) O O ⟨⟨j+1,rfl,O,Q,_,K.to D g λb _ d=>d,(qf.loc _ _).bU W D λb _ S hp=>(K.p b hp).2.1 (.inr S),K.cW D C (.inl rfl),hQ⟩,O⟩
    ·have V:ZY H.bT xs j=[]:=E7 O;rw[zB V]at E;refine cA (m:=j+1) O O ⟨⟨j+1,rfl,O,Q,P,by rw[E];exact K,W,C,hQ⟩,O⟩
   ·have hjj:j=H.bT.length:=by simp only at ad;omega
    subst hjj;rw[M]at hR;exact hR w K.e (K.fin h)
  ·refine W.get (ag _) hown λs U N=>C.rS rfl ?_;refine cU (λheq=>?_) λV=>?_
   ·have ac:(ZY H.bT xs own).length=xs.length:=by simp only[zY]at heq;omega
    rw[zB ac]at M hJ;have hS:qX (λu=>(∃P' H',HH u P' L H'/\H'.tb=H.tb)/\bX u σ.size [.int .i64 (k:Int),.slice sl.a sl.len sl.cap]) L H.tb:=λm hm=>by
     obtain⟨⟨P',H',g,h2⟩,_⟩:=hm;exact⟨P',L.ts,H',g,h2⟩
    refine⟨λu=>(∃P' H',HH u P' L H'/\H'.tb=H.tb)/\bX u σ.size [.int .i64 (k:Int),.slice sl.a sl.len sl.cap],⟨⟨_,_,K.h,rfl⟩,C⟩,aG (hS.fZ (hS.rA K.h hY ?_))⟩;refine⟨(k:Int),λm hm=>by rw[add_lit,hm.2.cell];rfl,⟨sl,λm hm=>by rw[add_lit,hm.2.cell];rfl,?_⟩⟩;refine SY K.h hA hY (k:Int) (hs1 w K.e) (λx ae=>(hx x ae).1) λZ D g=>?_;have K1:=K.to D g λb _ d=>d;refine⟨⟨⟨_,_,g,rfl⟩,K.cW D C (.inl rfl)⟩,?_⟩;have fin:∀r,r=Vu A (k:Int) xs->((r=true->R Z)/\(r=false->J Z)):=λr hr=>by
     refine⟨λhr1=>?_,λhr1=>hJ Z ⟨λhx=>Bool.noConfusion ((hr1.symm.trans hr).trans hx.2),Q,_,K1,(qf.loc _ _).bU W D λb _ S hp=>(K.p b hp).2.1 (.inr S),K.cW D C (.inl rfl),hQ⟩⟩;rw[zB ⟨ac,by rw[←hr,hr1]⟩]at M;rw[M]at hR;exact hR Z K1.e (K1.fin h)
    refine Ud (λr w=>w=Z/\r=Vu A (k:Int) xs) (λr w' ⟨hw,hr⟩=>?_) λJ3 hJ3=>?_
    ·subst hw;exact cU (λg=>(fin r hr).1 g) λg=>(fin r hr).2 g
    ·refine cU (λg=>hJ3 _ _ ⟨rfl,?_⟩) λg=>hJ3 _ _ ⟨rfl,g.symm⟩;have:HU A (k:Int) xs=0:=by
      unfold Vu at g;simp only[zG,zV]at g;exact g.1
     rw[this,g];rfl
   ·have ab:¬(ZY H.bT xs own).length=xs.length:=by
     simp only[qA]at V;omega
    rw[zA ab]at hJ;exact hJ w ⟨λhx=>ab hx.1,Q,P,K,W,C,hQ⟩
theorem iA {w:Hp}(K:HK F σ B w P L H)(hB:B n){p q:Int}(hb:bX w n [.int .i64 p,.int .i64 q]){x y:Int}{K':Int->Int->Hp->Prop}(hK:∀w',HK F σ B w' P L H->K' x y w') :
 cY (Addr.add ⟨n,0,none⟩ 0) (.int .i64 x) w λv3=>cY (Addr.add ⟨n,0,none⟩ 1) (.int .i64 y) v3 λv4=>fL .i64 (Addr.add ⟨n,0,none⟩ 0) v4 λres=>fL .i64 (Addr.add ⟨n,0,none⟩ 1) v4 λsZ=>K' res sZ v4:=
 hb.s1 aA λv3 o3 b=>b.s1 aA λv4 o4 a=>a.rI rfl (a.rI rfl (hK v4 ((K.own o3 hB).own o4 hB)))
theorem Ty (h:HH σ F L H)(ht:t<H.bR.length)(x:Int)(hx:iX x)(hr:bW H.live x=none->∀A∈H.bT,jR A)(hlen:∀g,H.bR[t]?=some g->g.bP.length<=1000)(h0:∀b,bW H.live x=some b->0<=x){R:Value->Int->Int->Hp->Prop}
 (hR:∀σ' ts',Ext F σ σ'->HH σ' (Grow F σ) {L with ts:=ts'} (Hb H t x).1->R (rf (Hb H t x).2.1) (Hb H t x).2.2.1 (Hb H t x).2.2.2 σ'):ZC.c (aW L.p) (t:Int) x σ R:=by
 refine ZC.o ?_;refine nw (cs:=[.int .i64 0,.int .i64 0]) λv hz e hb=>?_;have K1:=(HK.start h).box e hz;refine aG (K1.h.hd.rM rfl ⟨_,K1.h.mR,?_⟩);refine nw (cs:=[.int .i64 0,.int .i64 0,.int .i64 0,.int .i64 0]) λv1 hz1 e1 hb1=>?_;have K2:=K1.box e1 hz1;have hbv:=e1.bV hb id;have s:σ.size≠v.size:=by omega
 refine hb1.s1 aA λv2 o2 b2=>b2.s1 aA λv3 o3 b3=>b3.s1 aA λv4 o4 b4=>b4.s1 aA λv5 o5 b5=>?_;have K5:=(((K2.own o2 (.inr rfl)).own o3 (.inr rfl)).own o4 (.inr rfl)).own o5 (.inr rfl);have E:=Ws o5 (Ws o4 (Ws o3 (Ws o2 hbv s) s) s) s;have hL:L = {L with ts:=L.ts}:=rfl;cases hm:bW H.live x with
 | none=>
  have hno:Hb H t x=(H,none,0,pR H x):=by unfold Hb;rw[hm]
  rw[hno]at hR;simp only at hR;refine cJ rfl ?_;refine uy (λw=>pR H x=8/\bO v5 w) (λw ⟨h8,ew⟩=>?_) λJ V=>?_
  ·rw[h8]at hR;exact iA (n:=σ.size) (K5.fr ew) (.inl (.inr rfl)) (ew.bV E id) λC K'=>hR C L.ts K'.e (K'.fin h)
  ·refine Ic K5.h x hx λv9 S=>?_;have K9:=K5.fr S;have hb9:=S.bV E id;refine cI (λM=>?_) λhlt=>V v9 ⟨zA O,S⟩;have G:=Ez M;obtain⟨A,hA⟩:∃A,H.bT[(YM H.bT x).toNat]?=some A:=⟨_,cM G.1⟩;obtain⟨Y,hY,_,hAY⟩:=K9.h.ar hA;have a:pR H x=(match Ha A x with
    | some (k,y)=>if 0<=k/\(y:Int)=x then(9:Int)else 8
    | none=>8):=by unfold pR;rw[zB M,hA];rfl
   rw[G.2];refine aG (K9.h.hd.rS rfl (K9.h.rA hY ?_));refine S4 hAY (hr hm A (zE hA)) x hx (λv10 k y i hf=>?_) λv10 i hf=>?_
   ·rw[hf]at a;simp only at a;rw[a]at hR V;have K10:=K9.fr i;have U:=i.bV hb9 id;refine Ud (λr w=>w=v10/\r=decide (0<=k)) (λr w ⟨Z,d⟩=>?_) λJ1 z=>?_
    ·subst Z;subst d;refine Ud (λr w2=>w2=w/\r=decide (0<=k/\(y:Int)=x)) (λr w2 ⟨Z,d⟩=>?_) λJ2 P=>?_
     ·subst d;rw[Z];refine cI (λB=>?_) λB=>?_
      ·rw[zB B]at hR;exact iA (n:=σ.size) K10 (.inl (.inr rfl)) U λC K'=>hR C L.ts K'.e (K'.fin h)
      ·exact V w ⟨zA B,S.trans i⟩
     ·refine cI (λB=>P _ _ ⟨rfl,?_⟩) λB=>P _ _ ⟨rfl,?_⟩
      ·by_cases hyx:(y:Int)=x
       ·rw[zT (⟨B,hyx⟩:0<=k/\(y:Int)=x),zY.2 hyx]
       ·rw[zg (λhx=>hyx hx.2),qA.2 hyx]
      ·rw[zg (λhx=>B hx.1)]
    ·exact cJ rfl (z _ _ ⟨rfl,rfl⟩)
   ·rw[hf]at a;simp only at a;rw[a]at V;refine Ud (λr w=>w=v10/\r=false) (λr w ⟨Z,d⟩=>?_) λJ1 z=>cG rfl (z _ _ ⟨rfl,rfl⟩);subst Z;subst d;exact bZ.intro (cG rfl (cG rfl (V w ⟨rfl,S.trans i⟩)))
 | some b=>
  have hb0:=h0 b hm;have hfd:Hb H t x=(if b.2.2.1<0 then({H with live:=cR H.live x},some (.dK (x/256) b.2.2.2),0,0)
   else(Q2 {H with live:=cR H.live x} t b.2.2.1.toNat [x],some (.put b.2.2.1.toNat x),0,0)):=by unfold Hb;rw[hm]
  rw[hfd]at hR;have hgb:(bW H.live x).getD ((0,0,0,0):Bk)=b:=by rw[hm];rfl
  rw[hgb]at b5;refine cG rfl ?_;refine aG (K5.h.hd.rM rfl ?_);obtain⟨hF,X⟩:=K5.h.vT;refine⟨_,K5.h.mR,λv6 o6 _ hm6=>?_⟩;obtain⟨e6,h6⟩:=X v6 _ (o6 _ rfl) hm6;have K6:=K5.to e6 h6 λb _ hb=>.inl hb;have Q:=K5.cW e6 E (.inl (.inr rfl));have m:=K5.cW e6 b5 (.inr rfl);refine m.rI rfl (cI (λW=>?_) λhnn=>?_)
  ·have D:b.2.2.1<0:=W;rw[zB D]at hR;refine nz aB (ar (by rw[Yb O];omega) (by rw[Yb O];unfold iX at hx;omega) (m.rI rfl ?_));rw[Yb O];exact iA (n:=σ.size) K6 (.inl (.inr rfl)) Q λC K'=>hR C L.ts K'.e (K'.fin h)
  ·have aa:¬b.2.2.1<0:=hnn;rw[zA aa]at hR;refine m.rI rfl (nw (cs:=[.int .i64 x]) λv7 hz7 e7 hb7=>?_);have K7:=K6.box e7 hz7;have N:=e7.bV Q id;have hc7:=e7.bV m id;have K:b.2.2.1=((b.2.2.1.toNat:Nat):Int):=by omega
   have hs7:cT ⟨some ⟨v6.size,0,none⟩,1,1⟩ 1 (Wv [x]) v7 (· = v6.size):=hb7.gE (o:=0) rfl rfl λj hj=>by rw[zI];rfl
   have hz6:=K6.e.1;rw[K];refine C8 K7.h (t:=t) ht b.2.2.1.toNat hs7 (zD _) aA (λq _ u hp=>(K7.p q hp).2.1 (.inr u)) (K7.o.1.sub λq u=>O) (λu=>K7.o.2 O) hlen λv8 ts8 e8 h8=>?_;have K8:=(K6.fr e7).xy e8 h8 λq hql u=>by
    rcases u with u|u
    ·exact u.imp id .inl
    ·refine .inr (.inr ⟨.inr O,λhB=>?_⟩);have:=(K6.b q hB).2;omega
   have hb8:=K7.cW e8 N (.inl (.inl (.inr rfl)));have hc8:=K7.cW e8 hc7 (.inl (.inr rfl));refine hc8.rI (x:=((b.2.2.1.toNat:Nat):Int)) (by rw[←K];rfl) ?_;exact iA (n:=σ.size) K8 (.inl (.inr rfl)) hb8 λC K'=>hR C ts8 K'.e (K'.fin h)
end Go.Ar
namespace Go.Ar
open Go Go.Vc Go.Proofs
variable {σ u u':Hp}{F B P Q:Rg}{L:dQ}{H H':Hw}{t k n pb:Nat}{A:AR}{Y:Lay}{x:eD}{g:Th}{c:bY}{l:Li}{cs:List Value}
theorem vI {t' t:TypeId}{w:Value}{A B:Prop}(hne:t'≠t)(h:B):∃is:Bool,nI (.iface t' w) t [] [] is/\If is A B:=⟨false,⟨rfl,.inr ⟨_,_,rfl,hne⟩⟩,cG rfl h⟩
theorem oT {t' t:TypeId}{w:Value}{A B:Int->Prop}(hne:t'≠t)(h:B 0):∃x:Int,∃is:Bool,nI (.iface t' w) t [.int .i64 x] [.int .i64 0] is/\If is (A x) (B x):=⟨0,false,⟨rfl,.inr ⟨_,_,rfl,hne⟩⟩,cG rfl h⟩
theorem kV {t' t:TypeId}{w:Value}{A B:Int->Int->Prop}(hne:t'≠t)(h:B 0 0):∃x:Int,∃y:Int,∃is:Bool,nI (.iface t' w) t [.int .i64 x,.int .i64 y] [.int .i64 0,.int .i64 0] is/\If is (A x y) (B x y):=⟨0,0,false,⟨rfl,.inr ⟨_,_,rfl,hne⟩⟩,cG rfl h⟩
theorem IM {t:TypeId}{A B:Prop}(h:A):∃is:Bool,nI (.iface t (.agg #[])) t [] [] is/\If is A B:=⟨true,rfl,cJ rfl h⟩
theorem E9 {t:TypeId}{a:Int}{A B:Int->Prop}(h:A a):∃x:Int,∃is:Bool,nI (.iface t (.agg #[.int .i64 a])) t [.int .i64 x] [.int .i64 0] is/\If is (A x) (B x):=⟨a,true,rfl,cJ rfl h⟩
theorem zx {t:TypeId}{a b:Int}{A B:Int->Int->Prop}(h:A a b):∃x:Int,∃y:Int,∃is:Bool,nI (.iface t (.agg #[.int .i64 a,.int .i64 b])) t [.int .i64 x,.int .i64 y] [.int .i64 0,.int .i64 0] is/\If is (A x y) (B x y):=⟨a,b,true,rfl,cJ rfl h⟩
theorem HH.tc (h:HH u P L H)(hx:L.ts[t]?=some x)(hg:H.bR[t]?=some g){b o:Nat}(ha:L.cL.a=some ⟨b,o,none⟩){d:Nat}(hd:d<3){v:Value}(hv:(lG (x,g))[d]?=some v):cell u (Addr.add ⟨b,o+3*t,none⟩ d)=some v:=by
 obtain⟨j,m,e,i⟩:=UB h.mA hx hg hd hv;rw[ha]at e;cases e;rw[add_lit,show o+3*t+d=o+(3*t+d) by omega];exact i
theorem HH.AJ (h:HH u P L H)(hP:∀b,P b->b<u.size)(hx:L.ts[t]?=some x)(hg:H.bR[t]?=some g)(N:Rg)(hN:∀b,b<u.size->P b->¬N b)(oN:jS N)(oN2:¬N 1) :
 ∃G D:Rg,(∀b,G b->P b)/\(∀b,D b->P b)/\(∀b,G b->¬D b)/\iK x.h g.bP u G/\(∀u1,Ext G u u1->cT L.cL 3 (iG L.ts H.bR) u1 D) ∧
 ∀(u1:Hp) (s:Sl) (bs:List Bt) (G':Rg),Ext G u u1->(∀b,G' b->G b\/N b)->iK s bs u1 G'->∀{b o:Nat} (ha:L.cL.a=some ⟨b,o,none⟩) {K:aP},
  (∀u2,Ext D u1 u2->HH u2 (λb=>P b/\¬G b\/G' b/\b<u1.size) {L with ts:=L.ts.set t {x with h:=s}} {H with bR:=H.bR.set t {g with bP:=bs}}->K u2) →
  cY (Addr.add ⟨b,o+3*t,none⟩ 1) (.slice s.a s.len s.cap) u1 K:=by
 have W:=h.jX;have V:=Gn h.s.ts;have M:=(cQ.1 hg).1;obtain⟨G,D,E,y,hd,Q,F,_,w⟩:=h.vM hx hg N hN oN oN2;have p:∀u1,Ext G u u1->bS L.cL 3 (iG L.ts H.bR) u1 D:=λu1 e=>aI.bU F e λb _ d hx=>hd b hx d;refine⟨G,D,E,y,hd,Q,λu1 e=>bS.gE (p u1 e),λu1 s bs G' e i B b o ha K R=>?_⟩;have S:o=0:=by
  rcases F.2 with⟨h0,_⟩|⟨J,_,_,ha',_⟩
  ·omega
  ·rw[ha]at ha';cases ha';rfl
 subst S;have m:∀b,G' b->¬D b:=λb d hx=>by
  rcases i b d with h1|h1
  ·exact hd b h1 hx
  ·exact hN b (hP b (y b hx)) (y b hx) h1
 refine(p u1 e).st (j:=3*t+1) O (λJ r=>by rw[ha]at r;cases r;rw[add_lit];congr 1;omega) λu2 A C=>?_;have z:=(iK.loc _ _).bU ((iK.loc _ _).cut B) A λb _ d hx=>m b d.1 hx;obtain⟨X,U⟩:=w u2 s bs (Cut G' u1) D ((e.sub λb d=>.inl d).trans (A.sub λb d=>.inr d)) (λb d=>(i b d.1).imp .inl id) (λb d=>.inl (.inr d)) (λb d=>m b d.1) z C;refine R u2 A (U.mono (λb _ d=>?_) (λb (d:P b/\¬G b\/G' b/\b<u1.size)=>?_) λ(d:P _/\¬G _\/G' _/\_<u1.size)=>?_)
 ·rcases d with d|d|d
  ·exact .inl ⟨d.1,λhx=>d.2.2 (.inl hx)⟩
  ·exact .inr d
  ·exact .inl ⟨y b d,λhx=>hd b hx d⟩
 ·rcases d with d|d
  ·exact h.o b d.1
  ·exact(i b d.1).elim (λhx=>h.o b (E b hx)) (oN b)
 ·rcases d with d|d
  ·exact h.o2 d.1
  ·exact(i _ d.1).elim (λhx=>h.o2 (E _ hx)) oN2
theorem iK.qe {s:Sl}{G:Rg}{xs:List Int}{r:List Bt}(h:iK s ((k,xs)::r) u G):∃(so:Sl) (ps:List (Nat×Sl)) (D:Rg),dO s 2 (fN ((k,so)::ps)) u (λb=>G b/\¬D b)/\cT so 1 (Wv xs) u (λb=>D b/\oB so b)/\so.len<=so.cap/\nW ps r u (λb=>D b/\¬oB so b)/\(∀b,D b->G b)/\yz ps/\(∀x∈r,x.2≠[])/\xs≠[]:=by
 obtain⟨ps,D,d,j,H,N,g⟩:=h;cases ps with
 | nil=>have:=j.1;simp at this
 | cons p ps=>
  obtain⟨J,so⟩:=p;obtain⟨z,A,w⟩:=j.2 0 (J,so) (k,xs) rfl rfl;simp only at z A w;subst z;have e:=pB.1 N;refine⟨so,ps,D,d,A.C4,w,⟨by have:=j.1;simpa using this,λi p x y m=>?_⟩,H,e.2,λx m=>g x (mJ _ m),g _ nE⟩;obtain⟨K,C,M⟩:=j.2 (i+1) p x (by simpa using y) (by simpa using m);refine⟨K,aH.mono C.C4 λb _ B=>⟨B.1,?_⟩,M⟩;rintro⟨a,h1,h2⟩;obtain⟨L,E,F⟩:=B.2;exact e.1 p (zE y) a L h1 E (h2.trans F.symm)
theorem iK.pK {s:Sl}{G:Rg}{b:Bt}{r:List Bt}(h:iK s (b::r) u G):iK ⟨if s.cap=1 then s.a else s.a.map (·.add (1*2)),s.len-1,s.cap-1⟩ r u G:=by
 have m:=h.len;obtain⟨k,A⟩:=b;obtain⟨z,i,D,d,B,x,g,j,p,e,y⟩:=h.qe;exact⟨i,D,d.from (lo:=1) (by simp at m;omega),(nW.loc _ _).mono g λb _ w=>w.1,j,p,e⟩
theorem LI {s so:Sl}{ps:List (Nat×Sl)}{G:Rg}(h:cT s 2 (fN ((k,so)::ps)) u G){K:Addr->Prop}(hK:∀a,cell u (Addr.add a 0)=some (.int .i64 (k:Int))->cell u (Addr.add a 1)=some (.slice so.a so.len so.cap)->K a):Ix s.a s.len 0 2 K:=by
 obtain⟨b,o,i,m⟩:=h.cell (j:=0) (v:=.int .i64 (k:Int)) rfl;obtain⟨p,r,d,e⟩:=h.cell (j:=1) (v:=.slice so.a so.len so.cap) rfl;have g:=h.1;rw[KR]at g;simp only[zN]at g;rw[i]at d;cases d;rw[i];refine ix O O ?_;rw[add_lit];exact hK _ (by rw[add_lit];exact m) (by rw[add_lit];exact e)
theorem iK.app {s s2:Sl}{G Q:Rg}{bs bs2:List Bt}{e:Nat}(h:iK s bs u G)(h2:iK s2 bs2 u Q)(hd:∀b,G b->¬Q b)(hl:bs.length+bs2.length<=1000){K:Sl->Hp->Prop}
 (hK:∀s' u',Ext G u u'->iK s' (bs++bs2) u' (λb=>G b\/Q b\/u.size<=b)->K s' u'):App s 2 32 e [.int .i64 0,.slice none 0 0] s2 u K:=by
 have l1:=h.len;have l2:=h2.len;obtain⟨M,D,y,H,V,F,z⟩:=h;obtain⟨E,D2,A,m,r,Z,w⟩:=h2;by_cases h0:s2.len=0
 ·have X:bs2=[]:=E7 O;subst X;refine y.Ij h0 (by
   have:s.len*32<=1000*32:=nC (by simp at hl;omega) O;omega) (by simp at hl;omega) λR=>hK _ u (Ext.refl _ _) ?_
  rw[lZ];exact⟨M,D,(dO.loc _ _ _).mono R λb _ d=>⟨.inl d.1,d.2⟩,H,λb d=>.inl (V b d),F,z⟩
 ·have e1:(s.len+s2.len)*32<=1000*32:=nC O O;refine((dO.loc _ _ _).cut y).app (ys:=fN E) rfl (by rw[KR];have:=m.1;omega) A.gE.rd HL O O O λs' u' _ L R=>hK s' u' (L.sub λb d=>d.1.1) ?_;have hz:=L.1;have P:=H.1;refine⟨M++E,λb=>D b/\b<u.size\/D2 b/\b<u.size,?_,⟨by simp[H.1,m.1],λi p x B g=>?_⟩,λb d=>?_,tZ.2 ⟨F,Z,λp B q hq a a' U Y e3=>?_⟩,λx g=>(zU.1 g).elim (z x) (w x)⟩
  ·rw[Hc];refine(dO.loc _ _ _).mono R λb _ d=>?_;rcases d with d|d
   ·exact⟨.inl d.1.1,λg=>g.elim (λg=>d.1.2 g.1) λg=>hd b d.1.1 (r b g.1)⟩
   ·exact⟨.inr (.inr d),λg=>by rcases g with g|g<;>omega⟩
  ·rcases pA i M.length with C|C
   ·rw[zh C]at B;rw[zh O]at g;obtain⟨N,W,S⟩:=H.2 i p x B g;exact⟨N,aH.mono (aH.bU (aH.cut W) L λb _ d g=>g.1.2 d.1) λb _ d=>.inl d,S⟩
   ·rw[zp C]at B;rw[zp O,←P]at g;obtain⟨N,W,S⟩:=m.2 _ p x B g;exact⟨N,aH.mono (aH.bU (aH.cut W) L λb _ d g=>hd b g.1.1 (r b d.1)) λb _ d=>.inr d,S⟩
  ·rcases d with d|d
   ·exact .inl (V b d.1)
   ·exact .inr (.inl (r b d.1))
  ·obtain⟨i,C⟩:=zM B;obtain⟨j,F⟩:=zM hq;have hil:=(cQ.1 C).1;have hjl:=(cQ.1 F).1;have hy:bs[i]?=some (bs[i]' O):=cM _;have J:bs2[j]?=some (bs2[j]'(by have:=m.1;omega)):=cM _;have b1:=(H.2 i p _ C hy).2.1.bV (by simpa[Wv]using z _ (zE hy)) ⟨a,U,rfl⟩;have b2:=(m.2 j q _ F J).2.1.bV (by simpa[Wv]using w _ (zE J)) ⟨a',Y,rfl⟩;rw[e3]at b1;exact hd _ (V _ b1.1) (r _ b2.1)
theorem HK.Bm (K:HK F σ B u P L H){B':Rg}(h1:∀b,B' b->σ.size<=b/\b<u.size/\¬P b):HK F σ (λb=>B b\/B' b) u P L H:=
 ⟨K.h,K.e,λb a=>⟨(K.p b a).1,λg=>g.elim (K.p b a).2.1 λd=>(h1 b d).2.2 a,(K.p b a).2.2⟩,λb a=>a.elim (K.b b) λd=>⟨(h1 b d).1,(h1 b d).2.1⟩,K.o⟩
theorem ZN (hg:H.bR[t]?=some g)(f:Th->Th):H.eA t f = {H with bR:=H.bR.set t (f g)}:=by
 unfold Hw.eA;rw[Vn hg]
theorem G0 (hg:H.bR[t]?=some g):H.mG t=g:=by unfold Hw.mG;rw[zL,hg];rfl
theorem Up (hc:H.tb[k]?=some c):H.cls k=c:=by unfold Hw.cls;rw[zL,hc];rfl
theorem BP (hl:g.ls[k]?=some l):g.li k=l:=by unfold Th.li;rw[zL,hl];rfl
theorem Iv (ha:H.bT[H.own t]?=some A):H.eO t=A:=by unfold Hw.eO;rw[zL,ha];rfl
theorem mP (h:HS L H)(t:Nat):H.own t<H.bT.length:=yq _ (by have:=h.a1;omega)
theorem HH.Fe (h:HH u P L H)(hx:L.ts[t]?=some x)(hg:H.bR[t]?=some g):g.ls.length=H.tb.length:=by
 obtain⟨G,_,a,_⟩:=h.tu hx hg;exact a.len
theorem Mp (ha:H.bT[k]?=some A):H.cC k A=H:=by unfold Hw.cC;rw[Qq ha]
theorem Wo5 (l:List Nat):ints l=Wv (l.map λ(x:Nat)=>(x:Int)):=by simp[ints,Wv]
theorem IK (f:bY->Li->List Int×Li)(tb:List bY)(ls:List Li):(Ko f tb ls).length<=tb.length:=by
 unfold Ko;exact zJ (List.length_filterMap_le _ _) aA
theorem HH.qz (h:HH u P L H):H.tb.length<=40:=by
 obtain⟨x,g,a,b⟩:=h.th (t:=0) h.s.t1;obtain⟨G,_,d,_⟩:=h.tu a b;exact d.qZ
theorem ix0 {s:Sl}{b o:Nat}(ha:s.a=some ⟨b,o,none⟩)(hl:0<s.len){K:Addr->Prop}(hK:K ⟨b,o+0,none⟩):Ix s.a s.len 0 1 K:=by
 rw[ha];exact ix (vE _) O (by rw[add_lit];exact hK)
theorem Wph {s:Sl}{ps:List (Nat×Sl)}{G:Rg}(h:cT s 2 (fN ps) σ G)(hl:s.len<=1000000){R:Sl->Hp->Prop}(hR:∀s' σ',s'.len=s.len->bO σ σ'->bS s' 2 (fN ps) σ' (λb=>σ.size<=b)->R s' σ'):Wp.c s σ R:=by
 refine Wp.o ?_;exact BM h O rfl HL O hl hR
def yv (H:Hw)(t:Nat):Ph->Prop
 | .take k=>k<H.tb.length/\∀y l,Km (H.cls k) ((H.mG t).li k)=(some y,l)->iX y
 | .cN k _=>k<H.tb.length/\(Z9 (H.eO t) (k:Int)=0->YN (H.eO t) (k:Int)≠[])
 | .cP _ _=>True
 | .grow _ _=>True
 | .fill=>∃k x xs r,(H.mG t).bP=(k,x::xs)::r/\k<H.tb.length/\iX x/\((H.mG t).li k).os.length+xs.length<=256
 | .eU m=>Z7 (H.eO t) H.sp (m:Int) 1<=1000000
 | .find x=>iX x/\(bW H.live x=none->∀A∈H.bT,jR A)/\∀b,bW H.live x=some b->0<=x
 | .put k _=>k<H.tb.length/\(H.mG t).bP≠[]
 | .back=>∃k xs r,(H.mG t).bP=(k,xs)::r/\(∀x∈xs,iX x/\0<=YM H.bT x)/\xs.length<=1000000
 | .dK _ a=>0<=a/\a.toNat<H.bT.length/\∀A∈H.bT,∀r∈A.runs,r.1<=1000000
 | .drain=>True
def WpZ (σ:Hp)(F:Rg)(L:dQ)(o:xD)(R:Value->Int->Int->Hp->Prop):Prop:=∀σ' ts',Ext F σ σ'->HH σ' (Grow F σ) {L with ts:=ts'} o.1->R (rf o.2.1) o.2.2.1 o.2.2.2 σ'
end Go.Ar