/- Texts joined. -/
import Derived.Test.YtkabjcanamcbeaaGreatDoorW4
set_option linter.unusedVariables false
set_option linter.unusedSimpArgs false
namespace Go.Ar
open Go Go.Vc Go.Proofs
variable {σ:Hp}
theorem LD:∀(xs:List (Int×Int×Int)),uX xs=true↔∀(i:Nat) a b,xs[i]?=some a->xs[i+1]?=some b->a.1<b.1
 | []=>by simp[uX]
 | [x]=>by simp[uX]
 | x::y::l=>by
  have ih:=LD (y::l);show(decide (x.1<y.1)&&uX (y::l))=true↔_;rw[zF,ih,zS];constructor
  ·rintro⟨h1,h2⟩ i a b e d;cases i with
   | zero=>simp at e d;subst e;subst d;exact h1
   | succ i=>exact h2 i a b (by simpa using e) (by simpa using d)
  ·intro h;exact⟨h 0 x y rfl rfl,λi a b e d=>h (i+1) a b (by simpa using e) (by simpa using d)⟩
theorem Qr (xs:List (Int×Int×Int)):Qd xs=true↔1<=xs.length/\xs.length<=40/\(∀(i:Nat) t,xs[i]?=some t->Uy t.1 t.2.1 t.2.2=true)/\∀(i:Nat) a b,xs[i]?=some a->xs[i+1]?=some b->a.1<b.1:=by
 unfold Qd;simp only[zF,zS,LD,kM];constructor
 ·rintro⟨h1,h2,h3,h4⟩;exact⟨h1,h2,λi t d=>h3 t (zE d),h4⟩
 ·rintro⟨h1,h2,h3,h4⟩;exact⟨h1,h2,λt d=>by obtain⟨i,e⟩:=zN d;exact h3 i t e,h4⟩
theorem Hj {s:Sl}{xs:List (Int×Int×Int)}(ha:gB σ s xs){R:aO}(hR:∀σ',bO σ σ'->R (Qd xs) σ'):ZE.c s σ R:=by
 refine ZE.o ?_;unfold ZE.v;have M:∀σ',bO σ σ'->¬(1<=xs.length/\xs.length<=40/\(∀(i:Nat) t,xs[i]?=some t->Uy t.1 t.2.1 t.2.2=true)/\∀(i:Nat) a b,xs[i]?=some a->xs[i+1]?=some b->a.1<b.1)->R false σ':=λσ' e hn=>by
  have:=hR σ' e;have hf:Qd xs=false:=by rw[←qR,Qr];exact hn
  rw[hf]at this;exact this
 have W:=ha.1;refine bY.intro (cI (λc1=>cK rfl (M σ (Ext.refl _ _) λh=>O)) λc1=>?_);refine cI (λc2=>M σ (Ext.refl _ _) λh=>O) λc2=>?_;refine ZU (a:=bN) (λ(t:Int) v=>∃i:Nat,t=(i:Int)/\i<=xs.length/\bO σ v/\(∀(j:Nat) t,j<i->xs[j]?=some t->Uy t.1 t.2.1 t.2.2=true)/\∀(j:Nat) a b,j+1<i->xs[j]?=some a->xs[j+1]?=some b->a.1<b.1) (λt _=>xs.length-t.toNat)
  ⟨0,rfl,O,Ext.refl _ _,λj t h=>O,λj a b h=>O⟩ ?_
 rintro t v ⟨i,rfl,P,e,V,Z⟩;have U:=Yc ha e;refine cI (λaa=>?_) λhge=>?_
 ·have L:i<xs.length:=by omega
  have B:xs[i]?=some xs[i]:=cM L;generalize xs[i]=r at B;obtain⟨x,y,z⟩:=r;refine U3 U B ?_;refine nw (cs:=[.int .i64 0,.int .i64 0,.int .i64 0]) λv2 hz2 e2 b2=>b2.s1 aA λv3 o3 b3=>b3.s1 aA λv4 o4 b4=>b4.s1 aA λv5 o5 H=>?_;have e5:bO v v5:=Ext.fresh (Ext.fresh (Ext.fresh e2 o3.ext λi P=>O) o4.ext λi P=>O) o5.ext λi P=>by omega
  refine Jn.intro ⟨(· = v5),rfl,⟨x,λm G=>by rw[G,add_lit,H.cell];rfl,⟨y,λm G=>by rw[G,add_lit,H.cell];rfl,⟨z,λm G=>by rw[G,add_lit,H.cell];rfl,?_⟩⟩⟩⟩;refine BS x y z λv7 Y=>?_;have w:=(Ext.trans e e5).trans Y;have E:(Uy x y z=false\/∃a,0<i/\xs[i-1]?=some a/\x<=a.1)->R false v7:=λQ=>M v7 w λK=>by
   rcases Q with Q|⟨a,J,hb1,hb2⟩
   ·have:=K.2.2.1 i _ B;simp only at this;rw[Q]at this;cases this
   ·have:=K.2.2.2 (i-1) a (x,y,z) hb1 (by rw[show i-1+1=i by omega];exact B);simp only at this;omega
  cases hc:Uy x y z
  ·exact cK rfl (cK rfl (E (.inl hc)))
  ·have next:(∀a,0<i->xs[i-1]?=some a->a.1<x)->Ar .i64 ((i:Int)+1) λg=>(∃i:Nat,g=(i:Int)/\i<=xs.length/\bO σ v7/\(∀(j:Nat) t,j<i->xs[j]?=some t->Uy t.1 t.2.1 t.2.2=true)/\∀(j:Nat) a b,j+1<i->xs[j]?=some a->xs[j+1]?=some b->a.1<b.1)/\xs.length-g.toNat<xs.length-(i:Int).toNat:=by
    intro J;refine cA (m:=i+1) O O ⟨⟨i+1,rfl,O,w,λj t hj A=>?_,λj a b hj p d=>?_⟩,O⟩
    ·by_cases hji:j=i
     ·subst hji;rw[B]at A;cases A;exact hc
     ·exact V j t O A
    ·by_cases hji:j+1=i
     ·subst hji;rw[B]at d;cases d;exact J a O p
     ·exact Z j a b O p d
   refine cG rfl (cI (λJ=>?_) λJ=>cG rfl (next λa kB=>O))
   have u:xs[i-1]?=some (xs[i-1]' O):=cM _;generalize xs[i-1]' O=r at u;obtain⟨S,y',z'⟩:=r;have F:=Yc ha w;obtain⟨b,o,g1,g2,g3,g4,g5⟩:=F.2 (i-1) S y' z' u;have X:=Y.bZ H id;refine cA (m:=i-1) O O ?_;rw[g1];refine ix O O ?_;have C:cell v7 ⟨b,o+(((i-1:Nat):Int)).toNat*3+0,none⟩=some (.int .i64 S):=by simpa using g3
   have fin:If (decide (x<=S)) (R false v7) (Ar .i64 ((i:Int)+1) λg=>(∃i:Nat,g=(i:Int)/\i<=xs.length/\bO σ v7/\(∀(j:Nat) t,j<i->xs[j]?=some t->Uy t.1 t.2.1 t.2.2=true)/\∀(j:Nat) a b,j+1<i->xs[j]?=some a->xs[j+1]?=some b->a.1<b.1)/\xs.length-g.toNat<xs.length-(i:Int).toNat):=by
    refine cI (λN=>E (.inr ⟨_,O,u,N⟩)) λhgt=>next λa _ D=>?_
    rw[u]at D;cases D;simp only;omega
   rw[add_lit b o];exact⟨X.rI rfl (dS C fin),dS C (X.rI rfl fin)⟩
 ·have:i=xs.length:=by omega
  subst this;have K:Qd xs=true:=(Qr xs).2 ⟨O,O,λi t A=>V i t (cQ.1 A).1 A,λi a b p d=>Z i a b (cQ.1 d).1 p d⟩;have:=hR v e;rw[K]at this;exact this
end Go.Ar
namespace Go.Ar
open Go Go.Vc Go.Proofs
open Go.Bu (Zf QO Zu iR)
variable {σ:Hp}{F H:Rg}{p hs:Nat}{A:AR}{sp:Sp}{Y:Lay}{T:Nat->Hp->Rg->Prop}
open Classical in
theorem _root_.Go.Vc.Sep.put {L:Type}{C C':L->Hp->Rg->Prop}{σ:Hp}{F G:Rg}(hC:∀i,dQ (C i))(h:Sep C σ F)(i:L)(hd:∀b,G b->¬F b)(hj:∀j,j≠i->C' j=C j)(hi:C' i σ G)(hL:dQ (C' i)):Sep C' σ λb=>F b\/G b:=by
 obtain⟨ρ,h⟩:=h;refine⟨λb=>if G b then i else ρ b,λj=>?_⟩
 by_cases hji:j=i
 ·subst hji;exact hL.mono hi λb _ d=>⟨.inr d,zB d⟩
 ·rw[hj j hji];refine(hC j).mono (h j) λb _ a=>⟨.inl a.1,?_⟩;show(if G b then i else ρ b)=j
  rw[zA λe=>hd b e a.1];exact a.2
def gJ (A:AR)(Y:Lay)(T:Nat->Hp->Rg->Prop)(cs:List Value):Lb->Hp->Rg->Prop
 | .hd=>iH Y.p cs
 | i=>AC A Y T i
theorem gJ.loc {cs:List Value}(hT:∀k,dQ (T k)):∀i,dQ (gJ A Y T cs i)
 | .hd=>iH.loc _ _
 | .dB=>AC.loc (A:=A) (Y:=Y) hT .dB
 | .free=>AC.loc (A:=A) (Y:=Y) hT .free
 | .mM=>AC.loc (A:=A) (Y:=Y) hT .mM
 | .own=>AC.loc (A:=A) (Y:=Y) hT .own
 | .dG=>AC.loc (A:=A) (Y:=Y) hT .dG
 | .cL=>AC.loc (A:=A) (Y:=Y) hT .cL
 | .runs=>AC.loc (A:=A) (Y:=Y) hT .runs
 | .cC k=>AC.loc (A:=A) (Y:=Y) hT (.cC k)
 | .cE k=>AC.loc (A:=A) (Y:=Y) hT (.cE k)
theorem WoW:gJ A Y T (kW Y)=AC A Y T:=by
 funext i;cases i<;>rfl
theorem JN {cs:List Value}(hT:∀k,dQ (T k))(h:Sep (gJ A Y T cs) σ F)(hlen:A.cC.length<=Y.fJ.length)(hl:Y.fJ.length<=40){vb cp ty:Nat}(hb:bX σ vb [.pointer (some ⟨cp,0,none⟩)])(hvb:¬F vb){K:Sl->Hp->Prop}
 (hK:∀s' σ',Ext F σ σ'->Sep (gJ A {Y with dG:=s',fJ:=Y.fJ++[cp]} T cs) σ' (Grow F σ)->K s' σ'):App Y.dG 1 8 ty [.pointer none] ⟨some ⟨vb,0,none⟩,1,1⟩ σ K:=by
 obtain⟨G,g,d,_,a⟩:=h.kK (gJ.loc hT) .dG;have d:bR Y.dG 1 (eX Y.fJ) σ G:=d;have p:Y.dG.len=Y.fJ.length:=by have:=d.1;simp[eX]at this;omega
 refine d.app (ys:=[.pointer (some ⟨cp,0,none⟩)]) rfl rfl ?_ (by simp[dN]) aC aC nA λs' σ' r e i=>hK s' σ' (e.sub g) ?_
 ·intro j u hu;rw[add_lit,zG,hb.cell];exact hu
 refine(Sep.loc (gJ.loc hT)).mono (a σ' (gJ A {Y with dG:=s',fJ:=Y.fJ++[cp]} T cs) (Grow G σ) (λj m=>?_) e (λb hb=>hb) ?_ (gJ.loc hT _)) λb _ hb=>U0 g (λb hb=>hb) b hb
 ·cases j<;>first|rfl|exact absurd rfl m|skip
  rename_i k;show kE (Y.fJ++[cp])[k]? A.tb[k]? A.cC[k]?=kE Y.fJ[k]? A.tb[k]? A.cC[k]?;rcases ma k Y.fJ.length with h1|h1
  ·rw[zd h1]
  ·have:A.cC[k]?=none:=zZ O;rw[this]
   funext σ F
   unfold kE;cases(Y.fJ++[cp])[k]?<;>cases Y.fJ[k]?<;>cases A.tb[k]?<;>rfl
 ·show bR s' 1 (eX (Y.fJ++[cp])) σ' (Grow G σ);have:eX (Y.fJ++[cp])=eX Y.fJ++[.pointer (some ⟨cp,0,none⟩)]:=by simp[eX]
  rw[this];exact i
theorem WjV (hlen:A.cE.length<=Y.gC.length)(tp:Nat)(s':Sl):cF A {Y with cL:=s',gC:=Y.gC++[tp]}=cF A Y:=by
 funext k
 unfold cF;simp only;rcases ma k Y.gC.length with h1|h1
 ·rw[zd h1]
 ·have:A.cE[k]?=none:=zZ O;rw[this]
  funext σ F
  unfold lT;cases(Y.gC++[tp])[k]?<;>cases Y.gC[k]?<;>cases A.tb[k]?<;>rfl
theorem ES {cs:List Value}(h:Sep (gJ A Y (cF A Y) cs) σ F)(hlen:A.cE.length<=Y.gC.length)(hl:Y.gC.length<=40){vb tp ty:Nat}(hb:bX σ vb [.pointer (some ⟨tp,0,none⟩)])(hvb:¬F vb){K:Sl->Hp->Prop}
 (hK:∀s' σ',Ext F σ σ'->Sep (gJ A {Y with cL:=s',gC:=Y.gC++[tp]} (cF A {Y with cL:=s',gC:=Y.gC++[tp]}) cs) σ' (Grow F σ)->K s' σ'):App Y.cL 1 8 ty [.pointer none] ⟨some ⟨vb,0,none⟩,1,1⟩ σ K:=by
 have g:∀k,dQ (cF A Y k):=λk=>cF.loc k;obtain⟨G,i,d,_,a⟩:=h.kK (gJ.loc g) .cL;have d:bR Y.cL 1 (eX Y.gC) σ G:=d;have s:Y.cL.len=Y.gC.length:=by have:=d.1;simp[eX]at this;omega
 refine d.app (ys:=[.pointer (some ⟨tp,0,none⟩)]) rfl rfl ?_ (by simp[dN]) aC aC nA λs' σ' m e p=>hK s' σ' (e.sub i) ?_
 ·intro j u hu;rw[add_lit,zG,hb.cell];exact hu
 rw[WjV hlen];refine(Sep.loc (gJ.loc g)).mono (a σ' (gJ A {Y with cL:=s',gC:=Y.gC++[tp]} (cF A Y) cs) (Grow G σ) (λj r=>?_) e (λb hb=>hb) ?_ (gJ.loc g _)) λb _ hb=>U0 i (λb hb=>hb) b hb
 ·cases j<;>first|rfl|exact absurd rfl r
 ·show bR s' 1 (eX (Y.gC++[tp])) σ' (Grow G σ);have:eX (Y.gC++[tp])=eX Y.gC++[.pointer (some ⟨tp,0,none⟩)]:=by simp[eX]
  rw[this];exact p
theorem Iy {cs:List Value}(hT:∀k,dQ (T k))(h:Sep (gJ A Y T cs) σ F){i:Nat}{v:Value}(hi:i<cs.length){K:aP}(hK:∀σ',Ext F σ σ'->Sep (gJ A Y T (cs.set i v)) σ' F->K σ'):dL (Addr.add ⟨Y.p,0,none⟩ i) v σ K:=by
 obtain⟨G,g,d,_,e⟩:=h.kK (gJ.loc hT) .hd;have d:iH Y.p cs σ G:=d;refine d.2.s1 O λσ' o b=>hK σ' (o.ext.sub λb a=>by subst a;exact g _ d.1) ?_;rw[zG]at b;refine(Sep.loc (gJ.loc hT)).mono (e σ' (gJ A Y T (cs.set i v)) G (λj m=>?_) (o.ext.sub λb a=>by subst a;exact d.1) (λb a=>.inl a) ⟨d.1,b⟩ (gJ.loc hT _)) λb _ a=>yM g (λb a=>a) b a;cases j<;>first|rfl|exact absurd rfl m
theorem ni {cs:List Value}(h:Sep (gJ A Y T cs) σ F):bX σ Y.p cs/\F Y.p:=by
 obtain⟨G,a,b,d⟩:=h.get .hd;exact⟨d,a _ b⟩
theorem Rk {cs:List Value}{i cp tp:Nat}{c:bW}{ss:List cH}{t:fP}{ps:List (Nat×Nat)}{Gc Gt:Rg}(h:Sep (gJ A Y (cF A Y) cs) σ F)(hlc:A.cC.length=i)(hlt:A.cE.length=i)(hcp:Y.fJ[i]?=some cp)(htp:Y.gC[i]?=some tp)(hc:A.tb[i]?=some c)
 (hC:fB σ Gc cp c ps ss) (hTf:iD σ Gt tp c.batch A.room t) (d1:∀b,Gc b->¬F b) (d2:∀b,Gt b->¬F b) (d3:∀b,Gc b->¬Gt b) :
 Sep (gJ {A with cC:=A.cC++[ss],cE:=A.cE++[t]} Y (cF {A with cC:=A.cC++[ss],cE:=A.cE++[t]} Y) cs) σ λb=>(F b\/Gc b)\/Gt b:=by
 have m:∀k,dQ (cF A Y k):=λk=>cF.loc k;have u:Sep (gJ {A with cC:=A.cC++[ss]} Y (cF A Y) cs) σ λb=>F b\/Gc b:=by
  refine h.put (gJ.loc m) (.cC i) d1 (λj d=>?_) ?_ (gJ.loc m _)
  ·cases j<;>first|rfl|skip
   rename_i k;have p:k≠i:=λe=>d (by rw[e]);show kE Y.fJ[k]? A.tb[k]? (A.cC++[ss])[k]?=kE Y.fJ[k]? A.tb[k]? A.cC[k]?;rcases ma k i with h2|h2
   ·rw[zd O]
   ·have g:(A.cC++[ss])[k]?=none:=zZ (by rw[zK,tZ];omega);have r:A.cC[k]?=none:=zZ O;rw[g,r]
  ·show kE Y.fJ[i]? A.tb[i]? (A.cC++[ss])[i]? σ Gc;rw[hcp,hc,zn O,hlc,pW];exact⟨ps,hC⟩
 refine u.put (gJ.loc m) (.cE i) (λb s a=>?_) (λj d=>?_) ?_ (gJ.loc (λk=>cF.loc k) _)
 ·rcases a with a|a
  ·exact d2 b s a
  ·exact d3 b a s
 ·cases j<;>first|rfl|skip
  rename_i k;have p:k≠i:=λe=>d (by rw[e]);show lT Y.gC[k]? A.tb[k]? A.room (A.cE++[t])[k]?=lT Y.gC[k]? A.tb[k]? A.room A.cE[k]?;rcases ma k i with h2|h2
  ·rw[zd O]
  ·have g:(A.cE++[t])[k]?=none:=zZ (by rw[zK,tZ];omega);have r:A.cE[k]?=none:=zZ O;rw[g,r]
 ·show lT Y.gC[i]? A.tb[i]? A.room (A.cE++[t])[i]? σ Gt;rw[htp,hc,zn O,hlt,pW];exact hTf
open Classical in
noncomputable def jX {L:Type}(C:L->Hp->Rg->Prop)(S:L->Prop)(i:L):Hp->Rg->Prop:=if S i then C i else y9
theorem jX.loc {L:Type}{C:L->Hp->Rg->Prop}{S:L->Prop}(hC:∀i,dQ (C i))(i:L):dQ (jX C S i):=by
 unfold jX;split
 ·exact hC i
 ·exact y9.loc
theorem jX.put {L:Type}{C:L->Hp->Rg->Prop}{S:L->Prop}{F G:Rg}(hC:∀i,dQ (C i))(h:Sep (jX C S) σ F)(i:L)(hd:∀b,G b->¬F b)(hi:C i σ G):Sep (jX C λj=>S j\/j=i) σ λb=>F b\/G b:=by
 refine h.put (jX.loc hC) i hd (λj a=>?_) ?_ (jX.loc hC i)
 ·unfold jX;by_cases hS:S j
  ·rw[zB (.inl hS),zB hS]
  ·rw[zA (λh=>hS (h.resolve_right a)),zA hS]
 ·unfold jX;rw[zB (.inr rfl)];exact hi
theorem jX.all {L:Type}{C:L->Hp->Rg->Prop}{S:L->Prop}{F:Rg}(h:Sep (jX C S) σ F)(hS:∀i,S i):Sep C σ F:=by
 have:jX C S=C:=by
  funext i;unfold jX;rw[zB (hS i)]
 rw[this]at h;exact h
theorem jX.one {L:Type}{C:L->Hp->Rg->Prop}(S:L->Prop)(l:L)(h:∀i,S i->C i σ λ_=>False):Sep (jX C S) σ λ_=>False:=by
 refine⟨λ_=>l,λi=>?_⟩;have:(λ(b:Nat)=>False/\l=i)=λ_=>False:=by funext b;simp
 rw[this];unfold jX;by_cases hS:S i
 ·rw[zB hS];exact h i hS
 ·rw[zA hS];trivial
theorem IU {tb:List bW}:∀v∈gg tb,dN v=true:=by
 intro v hv;simp only[gg,rq]at hv;obtain⟨c,_,a⟩:=hv;simp at a;rcases a with rfl|rfl|rfl<;>rfl
theorem UE {s:Sl}{xs:List (Int×Int×Int)}(ha:gB σ s xs)(hv:Qd xs=true){i:Nat}{c:bW}(hc:(xs.map ZV)[i]?=some c):xs[i]?=some ((c.size:Int),(c.aF:Int),(c.batch:Int))/\c.ok:=by
 rw[ze,qH]at hc;obtain⟨⟨x,y,z⟩,e,rfl⟩:=hc;obtain⟨c,a,j,b,g,d⟩:=yZ (((Qr xs).1 hv).2.2.1 i _ e);simp only at b g d;rw[j,e,b,g,d];exact⟨rfl,a⟩
theorem V2 {s:Sl}{xs:List (Int×Int×Int)}(ha:gB σ s xs)(hv:Qd xs=true){R:Sl->Hp->Prop}(hR:∀s' σ',bO σ σ'->cR s' 3 (gg (xs.map ZV)) σ' (λb=>σ.size<=b)->R s' σ'):Wc.c s σ R:=by
 refine Wc.o ?_;unfold Wc.v;have F:=(Qr xs).1 hv;have z:=ha.1;have x:0<(xs.map ZV).length:=by rw[za];omega
 have H:(xs.map ZV)[0]?=some (xs.map ZV)[0]:=cM x;obtain⟨M,d,a,_⟩:=ha.2 0 _ _ _ (UE ha hv H).1;refine cG (by rw[a];rfl) (nw (cs:=[]) λv D y G=>?_);have w:=Yc ha y;refine(bR.nil v (λb=>σ.size<=b) 3 (some ⟨σ.size,0,none⟩)).app (ys:=gg (xs.map ZV)) rfl (by rw[Kd,za];omega) ?_ IU aC aC O λs' E J L g=>hR s' E (Ext.fresh y L λi p=>p) ?_
 ·rw[a];intro j u hu;have m:=(cQ.1 hu).1;rw[Kd,za]at m;have p:j/3<(xs.map ZV).length:=by rw[za];omega
  have r:(xs.map ZV)[j/3]?=some (xs.map ZV)[j/3]:=cM p;generalize (xs.map ZV)[j/3]=c at r;have e:=HJ r;obtain⟨b,o,A,_,C,B,K⟩:=w.2 (j/3) _ _ _ (UE ha hv r).1;rw[a]at A;cases A;rw[add_lit];rcases(by omega:j=3*(j/3)\/j=3*(j/3)+1\/j=3*(j/3)+2)with hj|hj|hj
  ·rw[hj]at hu;rw[e.1]at hu;cases hu;rw[show d+j=d+j/3*3 by omega];exact C
  ·rw[hj]at hu;rw[e.2.1]at hu;cases hu;rw[show d+j=d+j/3*3+1 by omega];exact B
  ·rw[hj]at hu;rw[e.2.2]at hu;cases hu;rw[show d+j=d+j/3*3+2 by omega];exact K
 ·rw[oZ]at g;refine aH.mono g.fX λb _ e=>?_;rcases e with h|h
  ·exact h
  ·omega
def fG (n room:Nat)(tb:List bW):AR:={n:=n,room:=room,tb:=tb,S:=Go.Bu.iL,st:=List.replicate n 0,ow:=λ_=>0,cC:=List.replicate tb.length [],cE:=List.replicate tb.length ⟨0,[]⟩,runs:=[]}
def jW (n room:Nat)(tb:List bW)(i:Nat):AR:={fG n room tb with cC:=List.replicate i [],cE:=List.replicate i ⟨0,[]⟩}
def lP (xs:List (Int×Int×Int))(n:Nat)(room:Int):Int:=if Qd xs then(if 32<=n/\n%16=0/\0<=room/\room<=8 then 0 else 1)else 2
def S0:Lb->Prop
 | .dG | .cL | .cC _ | .cE _=>True
 | _=>False
theorem JZ {i cp tp:Nat}{c:bW}{ss:List cH}{t:fP}{ps:List (Nat×Nat)}{Gc Gt:Rg}{dG cL:Sl}(hpos:Y.fJ.length=i/\Y.gC.length=i)
 (h:Sep (gJ A {Y with dG:=dG,cL:=cL,fJ:=Y.fJ++[cp],gC:=Y.gC++[tp]} (cF A {Y with dG:=dG,cL:=cL,fJ:=Y.fJ++[cp],gC:=Y.gC++[tp]}) (kW Y)) σ F)
 (hlc:A.cC.length=i) (hlt:A.cE.length=i) (hc:A.tb[i]?=some c) (hC:fB σ Gc cp c ps ss) (hTf:iD σ Gt tp c.batch A.room t) (d1:∀b,Gc b->¬F b) (d2:∀b,Gt b->¬F b) (d3:∀b,Gc b->¬Gt b) {K:aP}
 (hK:∀σ' Y',Ext F σ σ'->Y'.p=Y.p->Y'.hs=Y.hs->Y'.fJ.length=i+1->Y'.gC.length=i+1->Sep (gJ {A with cC:=A.cC++[ss],cE:=A.cE++[t]} Y' (cF {A with cC:=A.cC++[ss],cE:=A.cE++[t]} Y') (kW Y')) σ' (λb=>(F b\/Gc b)\/Gt b)->K σ') :
 bS (some ⟨Y.p,0,none⟩) λa93=>dL (a93.add 5) (.slice dG.a dG.len dG.cap) σ λv25=>bS (some ⟨Y.p,0,none⟩) λa95=>dL (a95.add 6) (.slice cL.a cL.len cL.cap) v25 K:=by
 have s:∀k,dQ (cF A {Y with dG:=dG,cL:=cL,fJ:=Y.fJ++[cp],gC:=Y.gC++[tp]} k):=λk=>cF.loc k;refine aG (Iy (Y:={Y with dG:=dG,cL:=cL,fJ:=Y.fJ++[cp],gC:=Y.gC++[tp]}) s h (i:=5) (by simp[kW]) λz m x=>aG (Iy (Y:={Y with dG:=dG,cL:=cL,fJ:=Y.fJ++[cp],gC:=Y.gC++[tp]}) s x (i:=6) (by simp[kW]) λu r y=>?_));have j:=(fB.loc (c:=c) (ps:=ps) (ss:=ss) (p:=cp)).bU ((fB.loc (c:=c) (ps:=ps) (ss:=ss) (p:=cp)).bU hC m λb _ d e=>d1 b d e) r λb _ d e=>d1 b d e;have g:=(iD.loc (p:=tp) (batch:=c.batch) (room:=A.room) (t:=t)).bU ((iD.loc (p:=tp) (batch:=c.batch) (room:=A.room) (t:=t)).bU hTf m λb _ d e=>d2 b d e) r λb _ d e=>d2 b d e;have w:=Rk (cp:=cp) (tp:=tp) y hlc hlt (by simp only;rw[zn O,hpos.1,pW];rfl) (by simp only;rw[zn O,hpos.2,pW];rfl) hc j g d1 d2 d3;exact hK u {Y with dG:=dG,cL:=cL,fJ:=Y.fJ++[cp],gC:=Y.gC++[tp]} (m.trans r) rfl rfl (by simp[hpos.1]) (by simp[hpos.2]) w
theorem qY {cs:List Value}{σ':Hp}(hT:∀k,dQ (T k))(h:Sep (gJ A Y T cs) σ F)(e:bO σ σ'):Sep (gJ A Y T cs) σ' F:=(Sep.loc (gJ.loc hT)).bK h e
theorem FV {cs:List Value}(hT:∀k,dQ (T k))(h:Sep (gJ A Y T cs) σ F):Sep (gJ A Y T cs) σ (Cut F σ):=(Sep.loc (gJ.loc hT)).cut h
theorem MK (n room:Nat)(tb:List bW)(i:Nat):({jW n room tb i with cC:=(jW n room tb i).cC++[[]],cE:=(jW n room tb i).cE++[⟨0,[]⟩]}:AR)=jW n room tb (i+1):=by
 unfold jW;simp only[←Dt]
theorem Wky (n room:Nat)(tb:List bW):jW n room tb tb.length=fG n room tb:=rfl
theorem Tf {i cp tp:Nat}{c:bW}{ss:List cH}{t:fP}{ps:List (Nat×Nat)}{Gc Gt:Rg}{z:Nat}(hF:∀b,F b->z<=b/\b<σ.size)(hpos:Y.fJ.length=i/\Y.gC.length=i)(hi:i<40)
 (h:Sep (gJ A Y (cF A Y) (kW Y)) σ F) (hlc:A.cC.length=i) (hlt:A.cE.length=i) (hc:A.tb[i]?=some c) (hC:fB σ Gc cp c ps ss) (hTf:iD σ Gt tp c.batch A.room t) (d1:∀b,Gc b->¬F b/\z<=b/\b<σ.size) (d2:∀b,Gt b->¬F b/\z<=b/\b<σ.size) (d3:∀b,Gc b->¬Gt b) {J4:aP}
 (hK:∀σ' Y',Ext F σ σ'->Y'.p=Y.p->Y'.hs=Y.hs->Y'.fJ.length=i+1->Y'.gC.length=i+1->Sep (gJ {A with cC:=A.cC++[ss],cE:=A.cE++[t]} Y' (cF {A with cC:=A.cC++[ss],cE:=A.cE++[t]} Y') (kW Y')) σ' (λb=>z<=b)->J4 σ') :
 dT σ λS=>bS (some ⟨Y.p,0,none⟩) λa80=>gQ S .s (a80.add 5) λ(t82:Sl)=>bS (some ⟨Y.p,0,none⟩) λa87=>gQ S .s (a87.add 6) λ(t89:Sl)=>
  (Nw (.cells #[.pointer (some ⟨cp,0,none⟩)] 178 (0,0)) σ λn84 v21=>And (S v21) <|
   (App t82 1 8 178 [.pointer none] ⟨some n84,1,1⟩ v21 λt85 v22=>And (S v22)<|Nw (.cells #[.pointer (some ⟨tp,0,none⟩)] 180 (0,0)) v22 λn91 v23=>And (S v23)<|App t89 1 8 180 [.pointer none] ⟨some n91,1,1⟩ v23 λt92 v24=>And (S v24) <|
   bS (some ⟨Y.p,0,none⟩) λa93=>dL (a93.add 5) (.slice t85.a t85.len t85.cap) v24 λv25=>bS (some ⟨Y.p,0,none⟩) λa95=>dL (a95.add 6) (.slice t92.a t92.len t92.cap) v25 λv26=>J4 v26) ∧
   (Nw (.cells #[.pointer (some ⟨tp,0,none⟩)] 180 (0,0)) v21 λn911 v27=>And (S v27)<|App t82 1 8 178 [.pointer none] ⟨some n84,1,1⟩ v27 λt851 v28=>And (S v28)<|App t89 1 8 180 [.pointer none] ⟨some n911,1,1⟩ v28 λt921 v29=>And (S v29) <|
   bS (some ⟨Y.p,0,none⟩) λa931=>dL (a931.add 5) (.slice t851.a t851.len t851.cap) v29 λv30=>bS (some ⟨Y.p,0,none⟩) λa951=>dL (a951.add 6) (.slice t921.a t921.len t921.cap) v30 λv31=>J4 v31)) ∧
  (Nw (.cells #[.pointer (some ⟨tp,0,none⟩)] 180 (0,0)) σ λn912 v32=>And (S v32)<|Nw (.cells #[.pointer (some ⟨cp,0,none⟩)] 178 (0,0)) v32 λn841 v33=>And (S v33) <|
  App t82 1 8 178 [.pointer none] ⟨some n841,1,1⟩ v33 λt852 v34=>And (S v34)<|App t89 1 8 180 [.pointer none] ⟨some n912,1,1⟩ v34 λt922 v35=>And (S v35) <|
  bS (some ⟨Y.p,0,none⟩) λa932=>dL (a932.add 5) (.slice t852.a t852.len t852.cap) v35 λv36=>bS (some ⟨Y.p,0,none⟩) λa952=>dL (a952.add 6) (.slice t922.a t922.len t922.cap) v36 λv37=>J4 v37):=by
 have E:∀k,dQ (cF A Y k):=λk=>cF.loc k;have V:=fB.loc (c:=c) (ps:=ps) (ss:=ss) (p:=cp);have M:=iD.loc (p:=tp) (batch:=c.batch) (room:=A.room) (t:=t);refine⟨λm=>bX m Y.p (kW Y),(ni h).1,aG ⟨Y.dG,λm hm=>by rw[add_lit,hm.cell];rfl,aG ⟨Y.cL,λm hm=>by rw[add_lit,hm.cell];rfl,?_⟩⟩⟩;have D:∀(w:Hp) (F1:Rg) (b1 b2:Nat),bO σ w->(∀b,F1 b->F b)->Sep (gJ A Y (cF A Y) (kW Y)) w F1->bX w b1 [.pointer (some ⟨cp,0,none⟩)]->bX w b2 [.pointer (some ⟨tp,0,none⟩)]->σ.size<=b1->σ.size<=b2 →
  App Y.dG 1 8 178 [.pointer none] ⟨some ⟨b1,0,none⟩,1,1⟩ w λt85 v28=>And (bX v28 Y.p (kW Y))<|App Y.cL 1 8 180 [.pointer none] ⟨some ⟨b2,0,none⟩,1,1⟩ v28 λt92 v29=>And (bX v29 Y.p (kW Y)) <|
   bS (some ⟨Y.p,0,none⟩) λa93=>dL (a93.add 5) (.slice t85.a t85.len t85.cap) v29 λv30=>bS (some ⟨Y.p,0,none⟩) λa95=>dL (a95.add 6) (.slice t92.a t92.len t92.cap) v30 λv31=>J4 v31:=by
  intro w F1 b1 b2 ew hF1 hw hb1 hb2 hz1 hz2;have y:∀b,F1 b->z<=b/\b<σ.size:=λb d=>hF b (hF1 b d);have hsw:=ew.1;refine JN E hw O O hb1 (λg=>by have:=y _ g;omega) λs1 v28 H Q=>?_;have ae:=(ni Q).1;have Z:Sep (gJ A {Y with dG:=s1,fJ:=Y.fJ++[cp]} (cF A {Y with dG:=s1,fJ:=Y.fJ++[cp]}) (kW Y)) v28 (Grow F1 w):=Q;refine⟨ae,?_⟩;have c28:Sep (gJ A {Y with dG:=s1,fJ:=Y.fJ++[cp]} (cF A {Y with dG:=s1,fJ:=Y.fJ++[cp]}) (kW Y)) v28 (λb=>F1 b\/w.size<=b):=Z;have U:=H.bZ hb2 λg=>by have:=y _ g;omega
  have hb2lt:=hb2.lt;refine ES c28 aC aC U (λg=>by
   rcases g with g|g
   ·have:=y _ g;omega
   ·omega) λs2 v29 e29 aa=>?_
  refine⟨(ni aa).1,?_⟩;have G:∀b,(F1 b\/w.size<=b)->F b\/σ.size<=b:=λb d=>by
   rcases d with d|d
   ·exact .inl (hF1 b d)
   ·exact .inr O
  have j:Ext F σ v29:=((bO.to ew).trans (H.sub hF1)).fC e29 G;have X:=V.bU hC j λb _ d g=>(d1 b d).1 g;have R:=M.bU hTf j λb _ d g=>(d2 b d).1 g;have hs28:=H.1;refine JZ (F:=Grow (λb=>F1 b\/w.size<=b) v28) hpos aa hlc hlt hc X R (λb d g=>?_) (λb d g=>?_) d3 λw2 Y' e2 p1 p2 p3 p4 h2=>?_
  ·have:=d1 b d;rcases g with(g|g)|g
   ·exact this.1 (hF1 b g)
   ·omega
   ·omega
  ·have:=d2 b d;rcases g with(g|g)|g
   ·exact this.1 (hF1 b g)
   ·omega
   ·omega
  ·refine hK w2 Y' (j.fC e2 λb d=>?_) p1 p2 p3 p4 ((Sep.loc (gJ.loc (λk=>cF.loc k))).mono h2 λb _ d=>?_)
   ·rcases d with(d|d)|d
    ·exact .inl (hF1 b d)
    ·exact .inr O
    ·exact .inr O
   ·have hz0:z<=σ.size:=by have:=(d1 _ hC.fp);omega
    rcases d with(((d|d)|d)|d)|d
    ·exact(y b d).1
    ·omega
    ·omega
    ·exact(d1 b d).2.1
    ·exact(d2 b d).2.1
 have S0:∀{w:Hp},bO σ w->bX w Y.p (kW Y):=λe=>e.bZ (ni h).1 id;refine⟨nw (cs:=[.pointer (some ⟨cp,0,none⟩)]) λv21 z21 u P=>⟨S0 u,?_,?_⟩,nw (cs:=[.pointer (some ⟨tp,0,none⟩)]) λv32 z32 C b32=>⟨S0 C,nw (cs:=[.pointer (some ⟨cp,0,none⟩)]) λv33 z33 B b33=>⟨S0 (Ext.trans C B),?_⟩⟩⟩
 ·-- row,box,row
  have h21:=qY E h u;refine JN E h21 O O P (λg=>by have:=hF _ g;omega) λs1 v22 ad K=>⟨(ni K).1,?_⟩;have N:Sep (gJ A {Y with dG:=s1,fJ:=Y.fJ++[cp]} (cF A {Y with dG:=s1,fJ:=Y.fJ++[cp]}) (kW Y)) v22 (Grow F v21):=K;have c22:=FV (λk=>cF.loc k) N;refine nw (cs:=[.pointer (some ⟨tp,0,none⟩)]) λv23 z23 J b23=>?_;have W:=qY (λk=>cF.loc k) c22 J;refine⟨(ni W).1,ES W aC aC b23 (λg=>by have:=g.2;omega) λs2 v24 e24 ac=>⟨(ni ac).1,?_⟩⟩;have hs22:=ad.1;have hs23:=J.1;have r:∀b,Cut (Grow F v21) v22 b->F b\/σ.size<=b:=λb d=>by
   rcases d.1 with h|h
   ·exact .inl h
   ·exact .inr O
  have j:Ext F σ v24:=((((bO.to u).trans ad).lS J)).fC e24 r;have L:=V.bU hC j λb _ d g=>(d1 b d).1 g;have ab:=M.bU hTf j λb _ d g=>(d2 b d).1 g;refine JZ (F:=Grow (Cut (Grow F v21) v22) v23) hpos ac hlc hlt hc L ab (λb d g=>?_) (λb d g=>?_) d3 λw2 Y' e2 p1 p2 p3 p4 h2=>?_
  ·have:=d1 b d;rcases g with g|g
   ·rcases g.1 with g|g
    ·exact this.1 g
    ·omega
   ·omega
  ·have:=d2 b d;rcases g with g|g
   ·rcases g.1 with g|g
    ·exact this.1 g
    ·omega
   ·omega
  ·refine hK w2 Y' (j.fC e2 λb d=>?_) p1 p2 p3 p4 ((Sep.loc (gJ.loc (λk=>cF.loc k))).mono h2 λb _ d=>?_)
   ·rcases d with d|d
    ·exact r b d
    ·exact .inr O
   ·have hz0:z<=σ.size:=by have:=(d1 _ hC.fp);omega
    rcases d with((d|d)|d)|d
    ·rcases r b d with h|h
     ·exact(hF b h).1
     ·omega
    ·omega
    ·exact(d1 b d).2.1
    ·exact(d2 b d).2.1
 ·-- box,row,row
  refine nw (cs:=[.pointer (some ⟨tp,0,none⟩)]) λv27 z27 x b27=>⟨S0 (Ext.trans u x),?_⟩;exact D v27 F σ.size v21.size (Ext.trans u x) (λb d=>d) (qY E (qY E h u) x) (x.bZ P id) b27 (zD _) O
 ·exact D v33 F v32.size σ.size (Ext.trans C B) (λb d=>d) (qY E (qY E h C) B) b33 (B.bZ b32 id) O (zD _)
theorem yH {P:Hp->Rg->Prop}(hl:dQ P){a:Nat}(h:P σ λb=>a<=b):P σ λb=>a<=b/\b<σ.size:=hl.mono h λb d e=>⟨e,d⟩
theorem Wo2 {n room:Nat}{tb:List bW}(h1:32<=n)(h2:n<=1024)(h3:n%16=0)(h4:room<=8)(h5:1<=tb.length)(h6:tb.length<=40)(h7:∀c∈tb,c.ok)(hc:Y.fJ.length=tb.length)(ht:Y.gC.length=tb.length):eY (fG n room tb) Y:=
 ⟨hc,ht,by simp[fG],by simp[fG],h5,h6,h1,h2,h3,by simp[fG],h4,h7⟩
theorem TR {s:Sl}{xs:List (Int×Int×Int)}(ha:gB σ s xs)(hS:dE σ H hs sp)(room:Int){R:Option Addr->Int->Hp->Prop}
 (h0:lP xs sp.st.length room≠0->∀σ',bO σ σ'->R none (lP xs sp.st.length room) σ')
 (h1:lP xs sp.st.length room=0->∀σ' Y,bO σ σ'->Y.hs=hs->cX σ' (λb=>σ.size<=b) Y (fG sp.st.length room.toNat (xs.map ZV)) (cF (fG sp.st.length room.toNat (xs.map ZV)) Y)->R (some ⟨Y.p,0,none⟩) 0 σ') :
 QZ.c s (some ⟨hs,0,none⟩) room σ R:=by
 refine QZ.o ?_;unfold QZ.v;have hn2:sp.st.length<=1024:=by obtain⟨q,r,l,B,h⟩:=hS;exact h.n2
 refine Hj ha λv e=>?_;cases hv:Qd xs
 ·have e1:lP xs sp.st.length room=2:=by unfold lP;rw[hv];rfl
  have:=h0 (by rw[e1];decide) v e;rw[e1]at this;exact cK rfl this
 have eE:lP xs sp.st.length room=if 32<=sp.st.length/\sp.st.length%16=0/\0<=room/\room<=8 then 0 else 1:=by unfold lP;rw[hv,zB rfl]
 refine cG rfl (AS (hS.bK e) ?_);have C:¬(32<=sp.st.length/\sp.st.length%16=0/\0<=room/\room<=8)->R none 1 v:=λhn=>by
  rw[zA hn]at eE;have:=h0 (by rw[eE];decide) v e;rw[eE]at this;exact this
 have tm:(((sp.st.length:Nat):Int).tmod 16)=((sp.st.length%16:Nat):Int):=by rw[Q8 O];simp
 refine bY.intro (cI (λc1=>bY.intro (cK rfl (bY.intro (cK rfl (cK rfl (C O)))))) λc1=>nz aB ?_);rw[tm,Bw];refine bY.intro (cU (λc2=>bY.intro (cK rfl (cK rfl (C (λh=>by have:=h.2.1;simp[this]at c2))))) λc2=>?_);have c2':sp.st.length%16=0:=by simpa using c2
 refine bY.intro (cI (λc3=>cK rfl (C O)) λc3=>cI (λc4=>C O) λc4=>?_);obtain⟨W,rfl⟩:=zi (show 0<=room by omega);rw[zB O]at eE;have h1:=h1 eE;simp only[dC]at h1;have hva:=(Qr xs).1 hv;have N:=Yc ha e;have hn1:32<=sp.st.length:=by omega
 generalize sp.st.length=n at *;have hlen:s.len=(xs.map ZV).length:=by rw[za];exact ha.1
 have hcl:∀{σ':Hp} {i:Nat} {c:bW},gB σ' s xs->(xs.map ZV)[i]?=some c->xs[i]?=some ((c.size:Int),(c.aF:Int),(c.batch:Int))/\c.ok:=λh S=>UE h hv S;have J:1<=(xs.map ZV).length/\(xs.map ZV).length<=40:=by rw[za];omega
 refine V2 N hv λdB v5 e5 htab=>WnG λU op e6 hop hP=>tL λA z7 e7 hm=>?_;generalize htbd:xs.map ZV=tb at *;refine nw (cs:=[.slice dB.a dB.len dB.cap,.pointer (some ⟨hs,0,none⟩),.pointer none,.pointer none,.pointer (some ⟨op,0,none⟩),.slice none 0 0,.slice none 0 0,.map (some U.size)]) λv8 z8 e8 b8=>?_;refine Go.Bu.tD _ (λg=>absurd ⟨O,O⟩ g) λn' hn' _ _ v9 sb ms e9 hB hfp=>?_;have hnn:n=n':=by omega
 subst hnn;have b9:=e9.bZ b8 id;refine aG (b9.s1 aA λaa fV b10=>SR O O c2' λM tp tq K htp htq hTk=>aG ((K.bZ b10 id).s1 aA λv12 L b12=>?_));have s5:=e5.1;have s6:=e6.1;have s9:=e9.1;have s10:=fV.1;have s11:=K.1;have s12:=L.1;have hb8:=b8.lt;have x9:Ext (· = A.size) v9 v12:=(fV.ext.trans (bO.to K)).trans L.ext;have x5:Ext (· = A.size) v5 v12:=(bO.to (Ext.trans (Ext.trans (Ext.trans e6 e7) e8) e9)).trans x9;have x6:Ext (· = A.size) U v12:=(bO.to (Ext.trans (Ext.trans e7 e8) e9)).trans x9;have x7:Ext (· = A.size) A v12:=(bO.to (Ext.trans e8 e9)).trans x9;have x11:Ext (· = A.size) M v12:=L.ext;have p1:=aH.bU (yH aH htab) x5 λb _ g d=>by omega
 have p2:=(jF.loc (p:=op) (ow:=λ_=>0)).bU (yH jF.loc hP) x6 λb _ g d=>by omega
 have p3:dK v12 U.size .i64 bN []:=x7.gL (hm _ _) O;have p5:sU v8.size n Go.Bu.iL v12 (λb=>v8.size<=b/\b<v9.size):=(sU.loc _ _ _).bU (yH (sU.loc _ _ _) ⟨sb,ms,hB,hfp⟩) x9 λb _ g d=>by omega
 have p6:mU tp (List.replicate n 0) v12 (λb=>aa.size<=b/\b<M.size):=(mU.loc _ _).bU (yH (mU.loc _ _) ⟨tq,hTk,htp,htq⟩) x11 λb _ g d=>by omega
 let Y0:Lay:={p:=A.size,hs:=hs,fr:=v8.size,tr:=tp,op:=op,rn:=U.size,dB:=dB,dG:=⟨none,0,0⟩,cL:=⟨none,0,0⟩,fJ:=[],gC:=[]}
 have b12':bX v12 A.size (kW Y0):=b12
 let Cf:=gJ (jW n W tb 0) Y0 (cF (jW n W tb 0) Y0) (kW Y0)
 have u:∀i,dQ (Cf i):=gJ.loc λk=>cF.loc k;have q0:Sep (jX Cf S0) v12 λ_=>False:=jX.one S0 .hd λi V=>by
  cases i<;>first|exact V.elim|exact bR.nil _ _ _ _|exact trivial
 have q1:=jX.put u q0 .dB (G:=λb=>v.size<=b/\b<v5.size) (λb g d=>d) p1;have q2:=jX.put u q1 .own (G:=λb=>v5.size<=b/\b<U.size) (λb g d=>by
  rcases d with d|d
  ·exact d
  ·omega) p2
 have q3:=jX.put u q2 .runs (G:=λb=>b=U.size) (λb g d=>by
  rcases d with(d|d)|d
  ·exact d
  ·omega
  ·omega) ⟨rfl,p3⟩
 have q4:=jX.put u q3 .hd (G:=λb=>b=A.size) (λb g d=>by
  rcases d with((d|d)|d)|d
  ·exact d
  ·omega
  ·omega
  ·omega) ⟨rfl,b12'⟩
 have q5:=jX.put u q4 .free (G:=λb=>v8.size<=b/\b<v9.size) (λb g d=>by
  rcases d with(((d|d)|d)|d)|d
  ·exact d
  ·omega
  ·omega
  ·omega
  ·omega) p5
 have q6:=jX.put u q5 .mM (G:=λb=>aa.size<=b/\b<M.size) (λb g d=>by
  rcases d with((((d|d)|d)|d)|d)|d
  ·exact d
  ·omega
  ·omega
  ·omega
  ·omega
  ·omega) p6
 have q7:Sep Cf v12 λb=>v.size<=b:=by
  refine(Sep.loc u).mono (jX.all q6 λi=>?_) λb _ d=>?_
  ·cases i<;>simp[S0]
  ·rcases d with(((((d|d)|d)|d)|d)|d)|d
   ·exact d.elim
   ·omega
   ·omega
   ·omega
   ·omega
   ·omega
   ·omega
 have e12:bO v v12:=Ext.fresh e5 x5 λi V=>by omega
 have szv:=e.1;refine ZU (a:=bN) (λ(t:Int) w=>∃(i:Nat) (Y:Lay),t=(i:Int)/\i<=tb.length/\Y.p=A.size/\Y.hs=hs/\Y.fJ.length=i/\Y.gC.length=i/\bO v w/\Sep (gJ (jW n W tb i) Y (cF (jW n W tb i) Y) (kW Y)) w (λb=>v.size<=b)) (λt _=>tb.length-t.toNat)
  ⟨0,Y0,rfl,O,rfl,rfl,rfl,rfl,e12,q7⟩ ?_
 rintro t w ⟨i,Y,rfl,V,Z,hYh,hYc,hYt,ew,y⟩;refine cI (λhlt=>?_) λhge=>?_
 ·have hi':i<tb.length:=by omega
  have S:tb[i]?=some tb[i]:=cM hi';generalize tb[i]=c at S;have X:=Yc N ew;obtain⟨hxi,hok⟩:=hcl X S;refine U3 X hxi ?_;refine nw (cs:=[.int .i64 0,.int .i64 0,.int .i64 0]) λv14 hz14 e14 b14=>b14.s1 aA λv15 o15 b15=>b15.s1 aA λv16 o16 b16=>b16.s1 aA λv17 o17 b17=>?_;have Q:bO w v17:=Ext.fresh (Ext.fresh (Ext.fresh e14 o15.ext λi V=>O) o16.ext λi V=>O) o17.ext λi V=>by omega
  have x:bX v17 w.size [.int .i64 (c.size:Int),.int .i64 (c.aF:Int),.int .i64 (c.batch:Int)]:=b17;refine x.rI rfl (x.rI rfl (x.rI rfl (Wnr hok λv18 cp E hcp1 hcp2 hCe=>?_)));have b18:=E.bZ x id;obtain⟨_,_,_,_,_,_,hbt1,hbt2⟩:=id hok;refine b18.rI rfl (Tl hbt1 hbt2 O λv19 tp2 D htp1 htp2 hTf=>Jn.intro ?_);have s14:=Q.1;have s18:=E.1;have s19:=D.1;have sw:=ew.1;have hT:∀k,dQ (cF (jW n W tb i) Y k):=λk=>cF.loc k;have h19:=qY hT (qY hT (qY hT (FV hT y) Q) E) D;have P:=hCe.bK D;rw[←Z];refine Tf (F:=Cut (λb=>v.size<=b) w) (z:=v.size) (ss:=[]) (t:=⟨0,[]⟩) (λb g=>⟨g.1,by have:=g.2;omega⟩) ⟨hYc,hYt⟩ O h19 (by simp[jW]) (by simp[jW]) S P hTf (λb g=>?_) (λb g=>?_) (λb g hb2=>O) λw2 Y' e2 y1 y2 y3 y4 h2=>?_
  ·subst g;exact⟨λd=>by have:=d.2;omega,O,O⟩
  ·subst g;exact⟨λd=>by have:=d.2;omega,O,O⟩
  ·rw[MK]at h2;exact cA (m:=i+1) O O ⟨⟨i+1,Y',rfl,O,y1,y2.trans hYh,y3,y4,Ext.fresh (Ext.trans (Ext.trans (Ext.trans ew Q) E) D) e2 λb g=>g.1,h2⟩,O⟩
 ·have:i=tb.length:=by omega
  subst this;rw[Wky,WoW]at y;have hl:eY (fG n W tb) Y:=Wo2 hn1 hn2 c2' O J.1 J.2 (λc S=>by
   obtain⟨j,hj⟩:=zN S;exact(hcl N hj).2) hYc hYt
  have:=h1 w Y (Ext.trans e ew) hYh ⟨hl,λk=>cF.loc k,(Sep.loc (AC.loc λk=>cF.loc k)).mono y λb _ g=>zI szv g⟩;rw[Z]at this;exact this
end Go.Ar
namespace Go.Vc
open Go
variable {σ:Hp}{F:Rg}{s:Sl}{sz:Nat}{xs:List Value}
def dO (s:Sl)(sz:Nat)(xs:List Value):Hp->Rg->Prop:=λh F=>xs.length=s.len*sz/\(s.len=0/\s.cap=0\/∃b o cs,F b/\s.a=some ⟨b,o,none⟩/\bX h b cs/\s.len<=s.cap/\cs.length=o+s.cap*sz/\(cs.drop o).take xs.length=xs)
theorem dO.loc (s:Sl)(sz:Nat)(xs:List Value):dQ (dO s sz xs):=λσ d F G h g a=>by
 refine⟨h.1,h.2.imp id ?_⟩;rintro⟨b,o,cs,hq,ha,⟨e,he⟩,r⟩;have:=a b (bX.lt ⟨e,he⟩) hq;exact⟨b,o,cs,this.1,ha,⟨e,this.2.trans he⟩,r⟩
theorem dO.nil (h:Hp)(F:Rg)(sz:Nat)(a:Option Addr):dO ⟨a,0,0⟩ sz [] h F:=⟨by simp,.inl ⟨rfl,rfl⟩⟩
theorem bR.o (h:bR s sz xs σ F):dO s sz xs σ F:=⟨h.1,h.2.imp id λ⟨b,d,j,m,i,a,g,e⟩=>⟨b,0,d,j,m,i,a,O,by simpa using e⟩⟩
theorem dO.fX (h:dO s sz xs σ F):cR s sz xs σ F:=by
 refine⟨h.1,?_⟩;rcases h.2 with⟨hl,_⟩|⟨b,o,cs,hq,ha,hb,_,_,ht⟩
 ·left;have:=h.1;rw[hl]at this;simpa using this
 ·refine .inr ⟨b,o,cs,hq,ha,hb.q,λj a=>?_⟩;rw[←ht,zY,zo,zB a]
theorem dO.cap (h:dO s sz xs σ F):s.len<=s.cap:=by
 rcases h.2 with⟨q1,q2⟩|⟨_,_,_,_,_,_,q,_⟩
 ·omega
 ·exact q
theorem dO.app {x:Sl}{bytes e:Nat}{zs ys:List Value}{K:Sl->Hp->Prop}(ho:dO s sz xs σ F)(hz:zs.length=sz)
 (hy:ys.length=x.len*sz) (hr:Rd σ x.a ys) (h1:∀v∈ys,dN v=true) (hb:(s.len+x.len)*bytes<=2^46) (hc:s.len+x.len<=2^62)
 (hx:0<x.len) (hK:∀s' h',s'.len=s.len+x.len->Ext F σ h'->dO s' sz (xs++ys) h' (Grow F σ)->K s' h'):App s sz bytes e zs x σ K:=by
 refine⟨xs,ys,ho.1,hy,ho.fX.rd,hr,h1,hb,hc,λg=>?_,λr c p=>?_⟩
 ·rcases ho.2 with⟨hl,hcap⟩|⟨b,o,cs,hQ,ha,hk,hle,hcl,ht⟩
  ·omega
  ·rw[ha];simp only;rw[add_lit];have u:(s.len+x.len)*sz<=s.cap*sz:=lB _ g;rw[zk]at u;have d:=ho.1;refine Ub hk O λh' j i=>hK _ h' rfl (Ext.eP j hQ) ⟨?_,.inr ⟨b,o,_,.inl hQ,rfl,i,g,?_,?_⟩⟩
   ·simp[d,hy,zk]
   ·simp;omega
   ·rw[zK,d,zq];have w:(cs.take (o+s.len*sz)++ys++cs.drop (o+s.len*sz+ys.length)).drop o=(cs.drop o).take (s.len*sz)++(ys++cs.drop (o+s.len*sz+ys.length)):=by
     rw[kJ,List.drop_append_of_le_length (by rw[zO];omega),List.drop_take]
     congr 2;omega
    have m:(cs.drop o).take (s.len*sz)=xs:=by rw[←d];exact ht
    rw[w,m,←kJ,pd aE,ng aE]
 ·refine hK _ _ rfl (Ext.push _ _ _) ⟨by simp[ho.1,hy,zk],.inr ⟨σ.size,0,xs++ys++(List.replicate (c-(s.len+x.len)) zs).flatten,.inr (zD _),rfl,⟨e,by simp⟩,p,?_,?_⟩⟩
  ·simp only[zK,vC,tJ,vf,ho.1,hy,hz,←zk];rw[zG];congr 1;omega
  ·rw[List.drop_zero,pd aA,ng aA]
theorem dO.DC {x:Sl}{bytes e:Nat}{zs:List Value}{K:Sl->Hp->Prop}(ho:dO s sz xs σ F)(hx:x.len=0)(hb:s.len*bytes<=2^46)(hc:s.len<=2^62)(hK:dO ⟨s.a,s.len,s.cap⟩ sz xs σ F->K ⟨s.a,s.len,s.cap⟩ σ):App s sz bytes e zs x σ K:=by
 have d:=ho.cap;refine⟨xs,[],ho.1,by simp[hx],ho.fX.rd,by cases x.a<;>simp[Rd],by simp,by rw[hx];exact hb,O,λg=>?_,λb=>absurd O b⟩
 rw[hx];have:=hK ho;cases ha:s.a<;>(rw[ha]at this;exact this)
theorem dO.from (h:dO s sz xs σ F){lo:Nat}(h1:lo<=s.len):dO ⟨if s.cap=lo then s.a else s.a.map (·.add (lo*sz)),s.len-lo,s.cap-lo⟩ sz (xs.drop (lo*sz)) σ F:=by
 have d:=h.1;refine⟨by rw[zr,d,Nat.sub_mul],?_⟩;rcases h.2 with⟨q1,q2⟩|⟨b,o,cs,hq,ha,hb,hle,hcl,ht⟩
 ·left;simp only;omega
 ·by_cases hm:s.cap=lo
  ·left;simp only;omega
  ·refine .inr ⟨b,o+lo*sz,cs,hq,by simp only[zA hm,ha,zf,add_lit],hb,by simp only;omega,?_,?_⟩
   ·have:lo*sz<=s.cap*sz:=lB _ O;rw[hcl,Nat.sub_mul];omega
   ·rw[zr]
    conv=>rhs;rw[←ht]
    rw[List.drop_take,List.drop_drop]
end Go.Vc
namespace Go.Ar
open Go Go.Vc Go.Proofs
variable {σ:Hp}{F G:Rg}{Y:ie}{tb:List bW}{bud:Nat}{ls:List Li}{b k:Nat}{l:Li}{c:bW}
theorem Ψ {s:Sl}{xs:List (Int×Int×Int)}(ha:gB σ s xs)(dA:Int){R:Option Addr->Int->Hp->Prop}(h0:Qd xs=false->∀σ',bO σ σ'->R none 2 σ')
 (h1:Qd xs=true->¬(0<=dA/\dA<=65536)->∀σ',bO σ σ'->R none 1 σ')
 (h2:Qd xs=true->0<=dA->dA<=65536->∀σ' Y,bO σ σ'->eH σ' (λq=>σ.size<=q) Y (xs.map ZV) dA.toNat (List.replicate (xs.map ZV).length iC)->R (some ⟨Y.p,0,none⟩) 0 σ') :
 Q0.c s dA σ R:=by
 refine Q0.o ?_;unfold Q0.v;refine Hj ha λv e=>?_;cases hv:Qd xs
 ·exact cK rfl (h0 hv v e)
 refine cG rfl (bY.intro (cI (λz=>cK rfl (h1 hv O v e)) λz=>cI (λD=>h1 hv O v e) λD=>?_));have j:=Yc ha e;have E:=(Qr xs).1 hv;refine V2 j hv λdB b r g=>tL λd H w A=>nw (cs:=[.slice dB.a dB.len dB.cap,.int .i64 dA,.map (some b.size)]) λv3 J m F=>?_;have s1:=r.1;have s0:=e.1;refine h2 hv O O v3 ⟨d.size,b.size,dB,[]⟩ (((e.trans r).trans w).trans m) ⟨by rw[za];omega,λc B=>?_,by simp,by simp,?_⟩
 ·obtain⟨i,x⟩:=zN B;exact(UE j hv x).2
 ·refine⟨λq=>if q=d.size then .hd else if q=b.size then .mp else .dB,λi=>?_⟩
  cases i with
  | hd=>
   refine⟨⟨by show σ.size<=d.size;omega,by simp⟩,?_⟩;have:((dA.toNat:Nat):Int)=dA:=by omega
   simp only[BD,this];exact F
  | mp=>
   refine⟨⟨by show σ.size<=b.size;omega,?_⟩,m.gL (A .i64 .p) id⟩;show(if b.size=d.size then sS.hd else if b.size=b.size then sS.mp else sS.dB)=.mp
   rw[zA O,zB rfl]
  | dB=>
   have C:=aH.bK (aH.bK (aH.mono g (G:=λq=>v.size<=q/\q<b.size) λq u y=>⟨y,u⟩) w) m;refine aH.mono C λq _ u=>⟨O,?_⟩;show(if q=d.size then sS.hd else if q=b.size then sS.mp else sS.dB)=.dB
   rw[zA O,zA O]
  | li k=>
   simp only[CC,pO,jC,List.find?_nil,Option.map_none];cases hk:(List.replicate (xs.map ZV).length iC)[k]? with
   | none=>trivial
   | some l=>simp only[nr]at hk;split at hk<;>simp_all
def kT (f:Nat->Nat)(l:List (Int×Option Addr)):Nat:=(l.map λx=>f x.1.toNat).sum
theorem JR (f:Nat->Nat):∀{l:List (Int×Option Addr)} {n:Int} {x:Option Addr},(l.map (·.1)).Nodup->(n,x)∈l->kT f l=f n.toNat+kT f (l.filter λy=>!(y.1==n))
 | [],_,_,_,h=>by simp at h
 | y::l,n,x,hn,h=>by
  simp only[zJ,zp]at hn;rcases zQ.1 h with h1|h1
  ·subst h1;have:l.filter (λy=>!(y.1==n))=l:=by
    rw[oz];intro z hz;have:z.1≠n:=λe=>hn.1 (zC.2 ⟨z,hz,e⟩);simpa using this
   rw[uB aA,this];simp[kT]
  ·have a:y.1≠n:=λe=>hn.1 (zC.2 ⟨_,h1,e.symm⟩);rw[tF (by simpa using a)];have:=JR f hn.2 h1;simp only[kT,zJ,zm]at *;omega
theorem Mm (n a v:Nat):((List.range n).map λj=>if j=a then v else 0).sum=if a<n then v else 0:=by
 induction n with
 | zero=>simp
 | succ n ih=>
  rw[zz,zu,qo,ih];by_cases h:a=n
  ·subst h;simp
  ·by_cases h2:a<n
   ·rw[zB h2,zB O];simp[Ne.symm h]
   ·rw[zA h2,zA O];simp[Ne.symm h]
theorem Wmu (l:List Nat)(f g:Nat->Nat):(l.map λj=>f j+g j).sum=(l.map f).sum+(l.map g).sum:=by
 induction l with
 | nil=>rfl
 | cons x l ih=>simp only[zJ,zm,ih];omega
theorem Ju (f:Nat->Nat)(n:Nat):∀(ps:List (Nat×Nat)),(ps.map (·.1)).Nodup->(∀x∈ps,x.1<n)->(ps.map λx=>f x.1).sum=((List.range n).map λj=>if j∈ps.map (·.1)then f j else 0).sum
 | [],_,_=>by
  have:((List.range n).map λj=>if j∈([]:List (Nat×Nat)).map (·.1)then f j else 0)=(List.range n).map λ_=>0:=by simp
  rw[this]
  induction n with
  | zero=>rfl
  | succ n a=>rw[zz,zu,qo];simp at *;exact a
 | x::ps,hn,hl=>by
  simp only[zJ,zp]at hn;have a:=Ju f n ps hn.2 λy b=>hl y (by simp[b]);rw[zJ,zm,a];have e:((List.range n).map λj=>if j∈(x::ps).map (·.1)then f j else 0)=(List.range n).map λj=>(if j=x.1 then f x.1 else 0)+(if j∈ps.map (·.1)then f j else 0):=by
   apply kD;intro j _;by_cases hj:j=x.1
   ·subst hj;rw[zB aA,zB rfl,zA hn.1];rfl
   ·rw[zA hj,zG];by_cases hm:j∈ps.map (·.1)
    ·rw[zB hm,zB (by simp only[zJ,zQ];exact .inr hm)]
    ·rw[zA hm,zA (by simp only[zJ,zQ,not_or];exact⟨hj,hm⟩)]
  rw[e,Wmu,Mm,zB (hl x aA)]
def qu (tb:List bW)(ls:List Li)(k:Nat):Nat:=match tb[k]?,ls[k]? with
 | some c,some l=>c.size*l.os.length
 | _,_=>0
theorem LL:∀(tb:List bW) (ls:List Li),ls.length=tb.length->Qt tb ls=((List.range tb.length).map (qu tb ls)).sum
 | [],[],_=>rfl
 | c::tb,l::ls,h=>by
  have ih:=LL tb ls (by simpa using h);simp only[Qt]at ih;simp only[Qt,C8,zJ,zm,zP,ih,Ab,zt];rfl
 | [],_::_,h=>by simp at h
 | _::_,[],h=>by simp at h
theorem eH.nil (h:eH σ F Y tb bud ls)(hf:jC Y.ps k=none)(hl:ls[k]?=some l):l=iC:=by
 obtain⟨G,_,a⟩:=h.sep.get (.li k);simp only[CC,pO,hf,hl]at a;exact a
theorem eH.wk (h:eH σ F Y tb bud ls):(Y.ps.map (·.1)).Nodup:=by
 have:=h.map.nodup;have e:(kf Y.ps).map (·.1)=(Y.ps.map (·.1)).map λ(n:Nat)=>(n:Int):=by simp[kf]
 rw[e]at this;exact List.Pairwise.of_map (λ(n:Nat)=>(n:Int)) (λa b d e=>d (by rw[e])) this
theorem eH.bytes (h:eH σ F Y tb bud ls):kT (qu tb ls) (kf Y.ps)=Qt tb ls:=by
 have g:kT (qu tb ls) (kf Y.ps)=(Y.ps.map λx=>qu tb ls x.1).sum:=by simp[kT,kf,Function.comp_def]
 rw[g,Ju _ tb.length _ h.wk h.keys,LL _ _ h.len]
 congr 1
 apply kD;intro j hj;have a:=zU.1 hj;by_cases hm:j∈Y.ps.map (·.1)
 ·rw[zB hm]
 ·rw[zA hm];have i:jC Y.ps j=none:=by
   unfold jC;simp only[rr,oh,zX];exact λx d e=>hm (zC.2 ⟨x,d,e⟩)
  have b:ls[j]?=some (ls[j]'(by rw[h.len];exact a)):=cM _;have:=h.nil i b;unfold qu;rw[cM a,b,this];rfl
theorem IX:∀(tb:List bW) (ls:List Li),(∀c∈tb,c.ok)->(∀l∈ls,fQ l)->Qt tb ls<=tb.length*131072
 | [],_,_,_=>by simp[Qt]
 | _::_,[],_,_=>by simp[Qt]
 | c::tb,l::ls,h1,h2=>by
  have ih:=IX tb ls (λc a=>h1 c (by simp[a])) (λl b=>h2 l (by simp[b]));simp only[Qt]at ih;simp only[Qt,C8,zJ,zm,zP];have a:=h1 c aA;unfold bW.ok at a;have d:=(h2 l aA).many;have e:c.size*l.os.length<=512*256:=kO O d;omega
theorem J5 (h:eH σ F Y tb bud ls)(hok:∀l∈ls,fQ l):Qt tb ls<=5242880:=by
 have a:=IX tb ls h.ok hok;have b:=h.nC;omega
theorem eH.Lr (h:eH σ F Y tb bud ls):∀l∈ls,fQ l:=by
 intro l hl;obtain⟨k,a⟩:=zN hl;cases hf:jC Y.ps k with
 | none=>rw[h.nil hf a];exact fQ.nil
 | some b=>
  obtain⟨G,_,d,_⟩:=h.wK hf a;exact d.2.1
theorem AA (h:eH σ F Y tb bud ls){R:aN}(hR:∀σ',bO σ σ'->R ((Qt tb ls:Nat):Int) σ'):Xs.c (aW Y.p) σ R:=by
 refine Xs.o ?_;unfold Xs.v;have hle:=J5 h h.Lr;have hT:=h.bytes;refine Hm h (cG rfl (aG (h.hd.rM rfl ?_)));refine tj (a:=bN) h.map (λg (z:Int) v=>∃n:Nat,z=(n:Int)/\n+kT (qu tb ls) g=Qt tb ls/\(∀e∈g,e∈kf Y.ps)/\(g.map (·.1)).Nodup/\bO σ v) ?_ ?_ ?_
 ·intro v hz e;exact⟨0,rfl,by rw[hT];omega,λe he=>he,h.map.nodup,e⟩
 ·rintro z v ⟨n,rfl,E,_,_,e⟩;simp only[kT,pI,List.sum_nil,zq]at E;rw[E];exact hR v e
 ·rintro g n x z v v' J ⟨m,rfl,E,r,w,e⟩ U ho aa hJ;have X:bO σ v':=e.only ho (.inr (zD _));have N:=h.bK X;have u:=r _ U;simp only[kf,zC,Prod.mk.injEq]at u;obtain⟨⟨k,b⟩,D,B,A⟩:=u;simp only at B A;subst B;subst A;have H:=h.keys _ D;simp only at H;have M:tb[k]?=some tb[k]:=cM H;have L:ls[k]?=some (ls[k]'(by rw[h.len];exact H)):=cM _;generalize tb[k]=c at M;generalize (ls[k]'(by rw[h.len];exact H))=l at L;have P:jC Y.ps k=some b:=IY h.map.nodup D;obtain⟨G,hG,hL,_⟩:=N.wK P L;obtain⟨_,hok,s,Q,K,W⟩:=hL;have S:s.len=l.os.length:=by have:=K.1;simp[Wv]at this;omega
  have hb:qu tb ls k=c.size*l.os.length:=by unfold qu;rw[M,L]
  have j:=JR (qu tb ls) w U;simp only[dC]at j;refine aG (N.hd.rS rfl (uH N.jQ M (d:=0) O ?_));simp only[zT];refine aG (Q.rS rfl ?_);have C:m+c.size*l.os.length+kT (qu tb ls) (List.filter (λy=>!(y.1==(k:Int))) g)=Qt tb ls:=by
   have V:=j;rw[hb]at V;rw[←E,V,qn]
  refine cA (m:=c.size*l.os.length) (by simp only[S];simp) O (cA (m:=m+c.size*l.os.length) O O (hJ _ v' rfl rfl ⟨_,rfl,C,λy Z=>r y (zH.1 Z).1,w.sublist (List.filter_sublist.map _),X⟩))
theorem To (h:eH σ F Y tb bud ls){R:aO}(hR:∀σ',bO σ σ'->R (decide (bud<Qt tb ls)) σ'):Yj.c (aW Y.p) σ R:=by
 refine Yj.o ?_;unfold Yj.v;have e:decide (((Qt tb ls:Nat):Int)>(bud:Int))=decide (bud<Qt tb ls):=by rw[decide_eq_decide];omega
 refine Jn.intro (Hm h (cK rfl (aG ⟨AA h λσ' a=>(a.bZ h.hd id).rI rfl ?_,h.hd.rI rfl (AA h λσ' a=>?_)⟩)))
 ·rw[e];exact hR σ' a
 ·rw[e];exact hR σ' a
def BZ (f:bW->Li->List Int×Li)(fn:Nat):Prop:=∀{σ:Hp} {G:Rg} {b:Nat} {l:Li} {c:bW},jj b l σ G->c.ok->∀{R:Sl->Hp->Prop},
 (∀s z σ',Ext (· = b) σ σ'->σ.size<=z->bR s 1 (Wv (f c l).1) σ' (λq=>σ.size<=q/\q<z)->jj b (f c l).2 σ' (λq=>q=b\/z<=q)->R s σ') →
 VU Tryz.prog ⟨fn,#[],#[]⟩ [.pointer (some ⟨b,0,none⟩),.int .i64 (c.batch:Int)] [.one .s] σ R
theorem Nf:BZ ZX 223:=by
 intro σ G b l c h hc R hR;refine HR (all := #[.pointer (some ⟨b,0,none⟩),.int .i64 (c.batch:Int)]) (by kernel_rfl) aA ?_;refine YJ.o ?_;unfold YJ.v;have i:=h;obtain⟨_,j,s,d,a,g⟩:=h;have e:s.len=l.os.length:=by have:=a.1;simp[Wv]at this;omega
 refine aG (d.rS rfl ?_);simp only[e];exact H7 i (zD _) hR
theorem SX:BZ KH 221:=by
 intro σ G b l c h hc R hR;refine HR (all := #[.pointer (some ⟨b,0,none⟩),.int .i64 (c.batch:Int)]) (by kernel_rfl) aA ?_;refine Xx.o ?_;unfold Xx.v;have P:=h;obtain⟨_,g,s,x,M,K⟩:=h;have o1:=g.low;have o2:=g.many;have o3:=g.lim;have u:=Jw hc g;unfold bW.ok at hc;refine aG (x.rI rfl (cA (m:=l.low+1) O O (nz aB (cA (m:=(l.low+1)/2) (by rw[YN O];omega) O ?_))));refine H7 P O λout z v e U S y=>?_;have J:=y;obtain⟨_,Q,s1,d,p,A⟩:=y;have r:s1.len=(gT ((l.low+1)/2) l).2.os.length:=by have:=p.1;simp[Wv]at this;omega
 refine Jn.intro ?_;have rest:∀(i:Hp) (lim:Nat),Ext (· = b) v i->lim=(if l.lim>c.batch then max (l.lim-c.batch) c.batch else l.lim)->bX i b (nM s1 {(gT ((l.low+1)/2) l).2 with lim:=lim}) →
  bS (some ⟨b,0,none⟩) λC=>jk (C.add 0) i λD=>bS (some ⟨b,0,none⟩) λB=>dL (B.add 2) (.int .i64 ((D.len:Nat):Int)) i λv2=>R out v2:=by
  intro i lim e1 hlim a;refine aG (a.rS rfl (aG (a.s1 (by simp[nM]) λv2 o2 w=>?_)));have F:=e1.trans o2.ext;have N:=d.lt;refine hR out z v2 (e.trans F) U (aI.bU S F λq _ L H=>?_) ?_
  ·have:=x.lt;omega
  ·refine⟨.inl rfl,u,s1,?_,aH.bU p F λq _ L H=>L.2 H,A⟩;simp only[r]at w;subst hlim;exact w
 refine aG (d.rI rfl ?_);refine cI (λE=>?_) λE=>?_
 ·have j:l.lim>c.batch:=by simp only[gT]at E;omega
  refine aG (d.rI rfl (cA (m:=l.lim-c.batch) (by simp only[gT];omega) O (aG (d.s1 (by simp[nM]) λi o1 a=>rest i (max (l.lim-c.batch) c.batch) o1.ext (by rw[zB j]) ?_))));have:(if(c.batch:Int)>((l.lim-c.batch:Nat):Int)then(c.batch:Int)else((l.lim-c.batch:Nat):Int))=((max (l.lim-c.batch) c.batch:Nat):Int):=by split<;>omega
  rw[this]at a;exact a
 ·have j:¬l.lim>c.batch:=by simp only[gT]at E;omega
  exact rest v l.lim (Ext.refl _ _) (by rw[zA j]) d
def oS (x:Nat×Sl):List Value:=[.int .i64 (x.1:Int),.slice x.2.a x.2.len x.2.cap]
def fN (l:List (Nat×Sl)):List Value:=l.flatMap oS
theorem KF (l:List (Nat×Sl)):(fN l).length=l.length*2:=by
 induction l with
 | nil=>rfl
 | cons x l ih=>
  have e:fN (x::l)=oS x++fN l:=rfl;have a:(oS x).length=2:=rfl;rw[e,zK,ih,a,zP];omega
theorem U9 (a b:List (Nat×Sl)):fN (a++b)=fN a++fN b:=by simp[fN]
theorem Hs {l:List (Nat×Sl)}:∀v∈fN l,dN v=true:=by
 intro v hv;obtain⟨p,_,a⟩:=rq.1 hv;simp only[oS,zQ,List.not_mem_nil,or_false]at a;rcases a with rfl|rfl<;>rfl
theorem Ti {l:List (Nat×Sl)}{i:Nat}{p:Nat×Sl}(h:l[i]?=some p){d:Nat}(hd:d<2):(fN l)[2*i+d]?=(oS p)[d]? := by
 induction l generalizing i with
 | nil=>simp at h
 | cons x l ih=>
  have e:fN (x::l)=oS x++fN l:=rfl;have a:(oS x).length=2:=rfl;rw[e];cases i with
  | zero=>
   simp at h;subst h;rw[zd O];congr 1;omega
  | succ i=>
   rw[zn O,a,show 2*(i+1)+d-2=2*i+d by omega];exact ih (by simpa using h)
def kY (ps:List (Nat×Sl))(bs:List Bt)(σ:Hp)(D:Rg):Prop:=ps.length=bs.length/\∀(i:Nat) p x,ps[i]?=some p->bs[i]?=some x->p.1=x.1/\cR p.2 1 (Wv x.2) σ D/\p.2.len<=p.2.cap
theorem kY.loc (ps:List (Nat×Sl))(bs:List Bt):dQ (kY ps bs):=λσ g F G h d e=>⟨h.1,λi p x a b=>⟨(h.2 i p x a b).1,cR.loc _ _ _ _ _ _ _ (h.2 i p x a b).2.1 d e,(h.2 i p x a b).2.2⟩⟩
def uR (ps:List (Nat×Sl)):Prop:=ps.Pairwise λp q=>∀a a',p.2.a=some a->q.2.a=some a'->a.block≠a'.block
theorem uR.snoc {ps:List (Nat×Sl)}{bs:List Bt}{σ v:Hp}{D X:Rg}{s:Sl}{xs:List Int}(h:uR ps)(hB:kY ps bs σ D)(hne:∀x∈bs,x.2≠[])(hs:cR s 1 (Wv xs) v X)(hx:xs≠[])(hd:∀b,b<σ.size->D b->¬X b)(k:Nat):uR (ps++[(k,s)]):=by
 refine pq.2 ⟨h,List.pairwise_singleton _ _,λp z q u=>?_⟩;rw[zW]at u;subst u;intro a a' h1 h2 e;obtain⟨i,r⟩:=zN z;have d:=(cQ.1 r).1;have m:bs[i]?=some (bs[i]'(by rw[←hB.1];exact d)):=cM _;generalize (bs[i]'(by rw[←hB.1];exact d))=y at m;obtain⟨_,j,_⟩:=hB.2 i p y r m;have g:=j.bZ (by simpa[Wv]using hne y (zE m)) ⟨a,h1,rfl⟩;have w:=hs.bZ (by simpa[Wv]using hx) ⟨a',h2,rfl⟩;rw[e]at g;exact hd _ g.2 g.1 w.1
def il (s:Sl)(bs:List Bt):Hp->Rg->Prop:=λσ F=>∃(ps:List (Nat×Sl)) (D:Rg),dO s 2 (fN ps) σ (λq=>F q/\¬D q)/\kY ps bs σ D/\(∀q,D q->F q)/\uR ps/\∀x∈bs,x.2≠[]
theorem il.loc (s:Sl)(bs:List Bt):dQ (il s bs):=λσ r F G ⟨j,D,m,i,e,p⟩ g b=>
 ⟨j,λq=>D q/\q<σ.size,dO.loc _ _ _ _ _ _ _ m g λq a d=>⟨⟨(b q a d.1).1,λhd=>d.2 hd.1⟩,(b q a d.1).2⟩,kY.loc _ _ _ _ _ _ i g λq a hd=>⟨⟨hd,a⟩,(b q a (e q hd)).2⟩,λq a=>(b q a.2 (e q a.1)).1,p⟩
theorem il.nil (σ:Hp)(F:Rg)(a:Option Addr):il ⟨a,0,0⟩ [] σ F:=⟨[],λ_=>False,dO.nil _ _ _ _,⟨rfl,λi p x h=>by simp at h⟩,λq h=>h.elim,List.Pairwise.nil,by simp⟩
theorem il.len {s:Sl}{bs:List Bt}(h:il s bs σ F):s.len=bs.length:=by
 obtain⟨d,D,b,a,_⟩:=h;have:=b.1;rw[KF]at this;have:=a.1;omega
theorem il.cap {s:Sl}{bs:List Bt}(h:il s bs σ F):s.len<=s.cap:=by
 obtain⟨b,D,a,_⟩:=h;exact a.cap
def H6:Prop:=∀{σ:Hp} {F:Rg} {s:Sl} {xs:List (Nat×Sl)},bR s 2 (fN xs) σ F->(∀x∈xs,x.1<64)->xs.length<=1000->∀{R:aP},
 (∀xs' σ',xs'.Perm xs->xs'.Pairwise (λa b=>a.1<=b.1)->Ext F σ σ'->bR s 2 (fN xs') σ' F->R σ')->Z0.c s ⟨262,#[],#[]⟩ σ R
theorem Fl:∀{a b:List Nat},a.Pairwise (· < ·)->b.Pairwise (· < ·)->(∀x,x∈a↔x∈b)->a=b
 | [],[],_,_,_=>rfl
 | [],y::b,_,_,h=>by have:=(h y).2 aA;simp at this
 | x::a,[],_,_,h=>by have:=(h x).1 aA;simp at this
 | x::a,y::b,ha,hb,h=>by
  rw[mR]at ha hb;have e:x=y:=by
   rcases zQ.1 ((h x).1 aA)with h1|h1
   ·exact h1
   ·rcases zQ.1 ((h y).2 aA)with h2|h2
    ·exact h2.symm
    ·have:=ha.1 y h2;have:=hb.1 x h1;omega
  subst e
  congr 1
  refine Fl ha.2 hb.2 λz=>?_;have d:=h z;simp only[zQ]at d;constructor
  ·intro hza;have:=ha.1 z hza;rcases d.1 (.inr hza)with h1|h1
   ·omega
   ·exact h1
  ·intro hzb;have:=hb.1 z hzb;rcases d.2 (.inr hzb)with h1|h1
   ·omega
   ·exact h1
theorem HC {f:bW->Li->List Int×Li}{x:Bt}:x∈Kb f tb ls↔∃c l,tb[x.1]?=some c/\ls[x.1]?=some l/\x.2=(f c l).1/\x.2≠[]:=by
 unfold Kb;rw[vw];constructor
 ·rintro⟨k,hk,h⟩;split at h
  ·rename_i c l hc hl;split at h
   ·cases h
   ·rename_i hne;cases h;exact⟨c,l,hc,hl,rfl,hne⟩
  ·cases h
 ·rintro⟨c,l,hc,hl,e,hne⟩;refine⟨x.1,zU.2 (cQ.1 hc).1,?_⟩;rw[hc,hl];simp only;rw[zA (by rw[←e];exact hne),←e]
theorem O3 {f:bW->Li->List Int×Li}:((Kb f tb ls).map (·.1)).Pairwise (· < ·):=by
 unfold Kb;have key:∀(n:Nat),(((List.range n).filterMap λk=>match tb[k]?,ls[k]? with
  | some c,some l=>if(f c l).1=[]then none else some ((k,(f c l).1):Bt)
  | _,_=>none).map (·.1)).Pairwise (· < ·)/\∀x∈((List.range n).filterMap λk=>match tb[k]?,ls[k]? with
  | some c,some l=>if(f c l).1=[]then none else some ((k,(f c l).1):Bt)
  | _,_=>none),x.1<n:=by
  intro n
  induction n with
  | zero=>simp
  | succ n ih=>
   rw[zz,vq,zu];refine⟨pq.2 ⟨ih.1,?_,?_⟩,?_⟩
   ·simp only[AZ,List.filterMap_nil];split<;>simp
   ·intro a ha b hb;obtain⟨x,g,rfl⟩:=zC.1 ha;obtain⟨y,e,rfl⟩:=zC.1 hb;have j:=ih.2 x g;obtain⟨m,i,d⟩:=vw.1 e;clear e hb ha;simp only[zW]at i;subst i;split at d
    ·split at d
     ·cases d
     ·cases d;exact j
    ·cases d
   ·intro x g;rcases zR.1 g with g|g
    ·have:=ih.2 x g;omega
    ·obtain⟨m,i,e⟩:=vw.1 g;simp only[zW]at i;subst i;split at e
     ·split at e
      ·cases e
      ·cases e;omega
     ·cases e
 exact(key tb.length).1
def nO (todo:List (Int×Option Addr))(k:Nat):Prop:=((k:Nat):Int)∈todo.map (·.1)
instance (todo:List (Int×Option Addr)) (k:Nat):Decidable (nO todo k):=by unfold nO;infer_instance
theorem H8 {todo:List (Int×Option Addr)}{m k:Nat}:nO (todo.filter λy=>!(y.1==(m:Int))) k↔nO todo k/\k≠m:=by
 unfold nO;simp only[zC,zH,nj,m0];constructor
 ·rintro⟨y,⟨h1,h2⟩,h3⟩;exact⟨⟨y,h1,h3⟩,λe=>h2 O⟩
 ·rintro⟨⟨y,h1,h3⟩,h2⟩;exact⟨y,⟨h1,λe=>h2 O⟩,h3⟩
structure yc (f:bW->Li->List Int×Li) (tb:List bW) (ls:List Li) (todo:List (Int×Option Addr)) (ls':List Li) (outs:List Bt):Prop where
 l:∀k c l,tb[k]?=some c->ls[k]?=some l->ls'[k]?=some (if nO todo k then l else(f c l).2)
 n:(outs.map (·.1)).Nodup
 o:∀x:Bt,x∈outs↔∃c l,tb[x.1]?=some c/\ls[x.1]?=some l/\¬nO todo x.1/\x.2=(f c l).1/\x.2≠[]
theorem yc.step {f:bW->Li->List Int×Li}{todo:List (Int×Option Addr)}{ls':List Li}{outs:List Bt}(h:yc f tb ls todo ls' outs)(hc:tb[k]?=some c)(hl:ls[k]?=some l)(hk:nO todo k) :
 yc f tb ls (todo.filter λy=>!(y.1==(k:Int))) (ls'.set k (f c l).2) (if(f c l).1=[]then outs else outs++[(k,(f c l).1)]):=by
 have s:=h.l k c l hc hl;have z:=(cQ.1 s).1;have A:∀x∈outs,x.1≠k:=λx g e=>by
  obtain⟨_,_,_,_,B,_⟩:=(h.o x).1 g;rw[e]at B;exact B hk
 refine⟨λj d m hd p=>?_,?_,λx=>?_⟩
 ·by_cases hj:j=k
  ·subst hj;rw[hc]at hd;cases hd;rw[hl]at p;cases p;rw[zM z,zA (by rw[H8];exact λg=>g.2 rfl)]
  ·rw[zj (Ne.symm hj),h.l j d m hd p]
   congr 1
   by_cases r:nO todo j
   ·rw[zB r,zB (H8.2 ⟨r,hj⟩)]
   ·rw[zA r,zA λg=>r (H8.1 g).1]
 ·split
  ·exact h.n
  ·rw[zu,oD];refine⟨h.n,by simp,λa E b C e=>?_⟩;simp only[zJ,pI,zW]at C;subst C;obtain⟨x,g,D⟩:=zC.1 E;exact A x g (D.trans e)
 ·have w:(∃d m,tb[x.1]?=some d/\ls[x.1]?=some m/\¬nO (todo.filter λy=>!(y.1==(k:Int))) x.1/\x.2=(f d m).1/\x.2≠[])↔x∈outs\/(x=(k,(f c l).1)/\(f c l).1≠[]):=by
   constructor
   ·rintro⟨d,m,hd,p,r,e,i⟩;by_cases hj:x.1=k
    ·right;rw[hj]at hd p;rw[hc]at hd;cases hd;rw[hl]at p;cases p;exact⟨Prod.ext hj e,by rw[←e];exact i⟩
    ·left;exact(h.o x).2 ⟨d,m,hd,p,λg=>r (H8.2 ⟨g,hj⟩),e,i⟩
   ·rintro(g|⟨rfl,i⟩)
    ·obtain⟨d,m,hd,p,r,e,i⟩:=(h.o x).1 g;exact⟨d,m,hd,p,λu=>r (H8.1 u).1,e,i⟩
    ·exact⟨c,l,hc,hl,λu=>(H8.1 u).2 rfl,rfl,i⟩
  rw[w];split
  ·rename_i he;constructor
   ·exact .inl
   ·rintro(g|⟨_,i⟩)
    ·exact g
    ·exact absurd he i
  ·rename_i he;rw[zR,zW];constructor
   ·rintro(g|g)
    ·exact .inl g
    ·exact .inr ⟨g,he⟩
   ·rintro(g|g)
    ·exact .inl g
    ·exact .inr g.1
set_option maxRecDepth 4000 in
theorem Jv (hso:H6){f:bW->Li->List Int×Li}{fn:Nat}(hf:BZ f fn)(hnil:∀c,c.ok->f c iC=([],iC))(h:eH σ F Y tb bud ls){R:Sl->Hp->Prop}
 (hR:∀σ' s (Q:Rg),Ext F σ σ'->(∀q,Q q->σ.size<=q)->eH σ' (λq=>Grow F σ q/\¬Q q) Y tb bud (Q6 f tb ls)->il s (Kb f tb ls) σ' Q->R s σ') :
 Xl.c (aW Y.p) ⟨fn,#[],#[]⟩ σ R:=by
 refine Xl.o ?_;unfold Xl.v;refine Hm h (cG rfl (aG (h.hd.rM rfl ?_)));have htb:=h.nC;refine tj (a:=.s) h.map (λC (out:Sl) v=>∃(ls':List Li) (w:List Bt) (Q D:Rg) (ps:List (Nat×Sl)),Ext F σ v/\(∀q,Q q->σ.size<q)/\eH v (λq=>(Cut F σ q\/σ.size<q)/\¬Q q) Y tb bud ls' ∧
  bR out 2 (fN ps) v (λq=>Q q/\¬D q)/\kY ps w v D/\(∀q,D q->Q q)/\yc f tb ls C ls' w/\(∀e∈C,e∈kf Y.ps)/\(C.map (·.1)).Nodup/\uR ps) ?_ ?_ ?_
 ·intro v hz e;refine⟨ls,[],λ_=>False,λ_=>False,[],bO.to e,λq g=>g.elim,((eH.loc.bK h.cut e).mono λq _ g=>⟨.inl g,id⟩),bR.nil _ _ _ _,⟨rfl,λi p x K=>by simp at K⟩,λq g=>g.elim,⟨λk c l E N=>?_,by simp,λx=>?_⟩,λe P=>P,h.map.nodup,List.Pairwise.nil⟩
  ·by_cases hi:nO (kf Y.ps) k
   ·rw[zB hi,N]
   ·rw[zA hi];have hf0:jC Y.ps k=none:=by
     unfold jC;simp only[rr,oh,zX];exact λx r e=>hi (zC.2 ⟨((x.1:Int),some ⟨x.2,0,none⟩),zC.2 ⟨x,r,rfl⟩,by rw[e]⟩)
    have:=h.nil hf0 N;rw[N,this,hnil c (h.ok c (zE E))]
  ·simp only[List.not_mem_nil,false_iff];rintro⟨c,l,E,N,hi,e,hne⟩;have hf0:jC Y.ps x.1=none:=by
    unfold jC;simp only[rr,oh,zX];exact λy X e=>hi (zC.2 ⟨((y.1:Int),some ⟨y.2,0,none⟩),zC.2 ⟨y,X,rfl⟩,by rw[e]⟩)
   have:=h.nil hf0 N;rw[this,hnil c (h.ok c (zE E))]at e;exact hne e
 ·rintro out v ⟨ls',w,Q,D,ps,e,hQ,hC,V,hB,hD,hI,_,_,S⟩;have hno:∀k,¬nO [] k:=λk hk=>by simp[nO]at hk
  have hls:ls'=Q6 f tb ls:=by
   apply zy;intro k;by_cases hk:k<tb.length
   ·have E:tb[k]?=some tb[k]:=cM hk;have N:ls[k]?=some (ls[k]'(by rw[h.len];exact hk)):=cM _;rw[hI.l k _ _ E N,zA (hno k)];simp[Q6,DM,E,N]
   ·rw[zZ (by rw[hC.len];omega),zZ (by simp[Q6,h.len];omega)]
  subst hls;have hk1:∀(i:Nat) p,ps[i]?=some p->∃x,w[i]?=some x/\p.1=x.1/\cR p.2 1 (Wv x.2) v D/\p.2.len<=p.2.cap:=λi p K=>by
   have hi:=(cQ.1 K).1;have r:w[i]?=some (w[i]'(by rw[←hB.1];exact hi)):=cM _;exact⟨_,r,hB.2 i p _ K r⟩
  have B:ps.map (·.1)=w.map (·.1):=by
   apply zy;intro i;simp only[ze];cases K:ps[i]? with
   | none=>
    have:w[i]?=none:=by
     rw[List.getElem?_eq_none_iff]at K ⊢;rw[←hB.1];exact K
    rw[this];rfl
   | some p=>
    obtain⟨x,r,e1,_⟩:=hk1 i p K;rw[r];simp[e1]
  have W:∀x∈w,x.1<40:=λx r=>by
   obtain⟨c,l,E,_⟩:=(hI.o x).1 r;have:=(cQ.1 E).1;omega
  have hlen:ps.length<=40:=by
   have hn:=hI.n;rw[←B]at hn;have:=hn.length_le_of_subset (l₂:=List.range 40) λj S=>by
    rw[B]at S;obtain⟨x,r,rfl⟩:=zC.1 S;exact zU.2 (W x r)
   simpa using this
  refine hso V (λp K=>?_) O λps' v' L hsort e' hrow'=>?_
  ·have:p.1∈w.map (·.1):=by rw[←B];exact zC.2 ⟨p,K,rfl⟩
   obtain⟨x,r,e1⟩:=zC.1 this;have:=W x r;omega
  ·have hnd:(ps'.map (·.1)).Nodup:=(L.map _).nodup_iff.2 (by rw[B];exact hI.n);have hinc:(ps'.map (·.1)).Pairwise (· < ·):=by
    refine List.Pairwise.map (R:=λa b:Nat×Sl=>a.1<b.1) _ (λa b aa=>aa) ?_;have A:ps'.Pairwise λa b=>a.1≠b.1:=qL.1 hnd;exact(hsort.and A).imp λ{a b} aa=>by have:=aa.1;have:=aa.2;omega
   have hkk:ps'.map (·.1)=(Kb f tb ls).map (·.1):=by
    refine Fl hinc O3 λj=>?_;rw[(L.map _).mem_iff,B];constructor
    ·intro S;obtain⟨x,r,rfl⟩:=zC.1 S;obtain⟨c,l,E,N,_,e1,e2⟩:=(hI.o x).1 r;exact zC.2 ⟨x,HC.2 ⟨c,l,E,N,e1,e2⟩,rfl⟩
    ·intro S;obtain⟨x,r,rfl⟩:=zC.1 S;obtain⟨c,l,E,N,e1,e2⟩:=HC.1 r;exact zC.2 ⟨x,(hI.o x).2 ⟨c,l,E,N,hno _,e1,e2⟩,rfl⟩
   have eQ:Ext F σ v':=e.fC e' λq g=>.inr (sf (hQ q g.1));refine hR v' out Q eQ (λq g=>sf (hQ q g)) ?_ ⟨ps',D,hrow'.o,⟨?_,λi p x K r=>?_⟩,hD,(L.pairwise_iff λ{a b} aa x y A h2 e=>aa y x h2 A e.symm).2 S,λx r=>by
    obtain⟨_,_,_,_,_,h2⟩:=HC.1 r;exact h2⟩
   ·refine(eH.loc.bU hC e' λq _ g hq2=>g.2 hq2.1).mono λq _ g=>⟨?_,g.2⟩;rcases g.1 with r|r
    ·exact .inl r.1
    ·exact .inr (sf r)
   ·have:=congrArg List.length hkk;simpa using this
   ·have e1:p.1=x.1:=by
     have:=congrArg (λl=>l[i]?) hkk;simp only[ze,K,r,zf,Option.some.injEq]at this;exact this
    obtain⟨j,S⟩:=zN (L.mem_iff.1 (zE K));obtain⟨y,X,e2,hs,hcap⟩:=hk1 j p S;have e3:x.2=y.2:=by
     obtain⟨c,l,E,N,_,A,_⟩:=(hI.o y).1 (zE X);obtain⟨c',l',hc',hl',h2,_⟩:=HC.1 (zE r);rw[←e1,e2,E]at hc';cases hc';rw[←e1,e2,N]at hl';cases hl';rw[A,h2]
    rw[e3];exact⟨e1,aH.bU hs e' λq _ g hq2=>hq2.2 g,hcap⟩
 ·rintro C n x out v v' J ⟨ls',w,Q,D,ps,e,hQ,hC,V,hB,hD,hI,hsub,hnd,S⟩ r ho hlt hJ;have e1:Ext F σ v':=e.only ho (.inr (zD _));have U:eH v' (λq=>(Cut F σ q\/σ.size<q)/\¬Q q) Y tb bud ls':=eH.loc.bU hC ho.ext λq _ g P=>by
   rcases g.1 with A|A
   ·have:=A.2;omega
   ·omega
  have hrow1:bR out 2 (fN ps) v' (λq=>(Q q/\¬D q)/\q<v'.size):=aI.cut (aI.bU V ho.ext λq _ g P=>by have:=hQ q g.1;omega);have hB1:kY ps w v' (λq=>D q/\q<v'.size):=(kY.loc _ _).cut ((kY.loc _ _).bU hB ho.ext λq _ g P=>by have:=hQ q (hD q g);omega);have hmem:=hsub _ r;simp only[kf,zC,Prod.mk.injEq]at hmem;obtain⟨⟨k,b⟩,hkb,hk1,hx1⟩:=hmem;simp only at hk1 hx1;subst hk1;subst hx1;have hk:=h.keys _ hkb;simp only at hk;have E:tb[k]?=some tb[k]:=cM hk;have N:ls[k]?=some (ls[k]'(by rw[h.len];exact hk)):=cM _;generalize tb[k]=c at E;generalize (ls[k]'(by rw[h.len];exact hk))=l at N;have hcok:=h.ok c (zE E);have hlk:jC Y.ps k=some b:=IY h.map.nodup hkb;have hin:nO C k:=zC.2 ⟨_,r,rfl⟩;have hl':ls'[k]?=some l:=by rw[hI.l k c l E N,zB hin]
  have M:=hI.step E N hin;have hmF:(λq=>(Cut F σ q\/σ.size<q)/\¬Q q) Y.m:=by
   obtain⟨H,hH,hm⟩:=U.sep.get .mp;exact hH _ hm.1
  obtain⟨G,hG,hL,hGm,hput⟩:=U.wK hlk hl';have Z:=hG b hL.1;have hbm:b≠Y.m:=λe=>hGm (e▸hL.1);have hbs:b≠σ.size:=λe=>by
   subst e;rcases Z.1 with A|A
   ·have:=A.2;omega
   ·omega
  have hblt:b<v'.size:=by obtain⟨_,_,s,hbk,_⟩:=hL;exact hbk.lt
  have hsz1:=ho.1;refine aG (U.hd.rS rfl (uH U.jQ E (d:=2) O ?_));simp only[zA (show ¬(2=0) by omega),zA (show ¬(2=1) by omega)];refine hf hL hcok λs z v5 e5 hz hr hL5=>?_;have hs5:=e5.1;obtain⟨eF,h5⟩:=hput v5 _ (λq=>q=b\/z<=q) (e5.sub λq g=>by rw[g];exact hL.1) (λq g=>g.imp (λ(r:q=b)=>by rw[r];exact hL.1) λ(r:z<=q)=>O) hL5;have h5:=h5.cut;have eF5:Ext F σ v5:=e1.fC eF λq g=>by
   rcases g.1 with A|A
   ·exact .inl A.1
   ·exact .inr (sf A)
  have hnb:∀q,Q q->q≠b:=λq g hqb=>Z.2 (hqb▸g);have hrow5:=aI.bU hrow1 e5 λq _ g P=>hnb q g.1.1 P;have hB5:=(kY.loc _ _).bU hB1 e5 λq _ g P=>hnb q (hD q g.1) P;have hsl:s.len=(f c l).1.length:=by have:=hr.1;simp[Wv]at this;omega
  have hsub':∀y∈C.filter (λy=>!(y.1==(k:Int))),y∈kf Y.ps:=λy X=>hsub y (zH.1 X).1;have hnd':((C.filter λy=>!(y.1==(k:Int))).map (·.1)).Nodup:=hnd.sublist (List.filter_sublist.map _);by_cases hemp:(f c l).1=[]
  ·rw[zB hemp]at M;refine fH (by rw[hsl,hemp];simp) (hJ out v5 (e5.2 _ O λP=>hbs P.symm) (e5.2 _ U.map.lt λP=>hbm P.symm) ?_);refine⟨_,w,λq=>Q q/\q<v'.size,λq=>D q/\q<v'.size,ps,eF5,λq g=>hQ q g.1,h5.mono λq _ g=>?_,aI.mono hrow5 λq _ g=>⟨⟨g.1.1,g.2⟩,λhd=>g.1.2 hd.1⟩,hB5,λq g=>⟨hD q g.1,g.2⟩,M,hsub',hnd',S⟩;rcases g.1 with A|A|A
   ·exact⟨A.1.1,λr=>A.1.2 r.1⟩
   ·subst A;exact⟨Z.1,λr=>Z.2 r.1⟩
   ·exact⟨.inr O,λr=>O⟩
  ·rw[zA hemp]at M;have hpos:=qz.2 hemp;refine lV (by rw[hsl];omega) (nw (cs:=oS (k,s)) λv6 hz6 e6 hb6=>?_);have hrow6:=aI.bK hrow5 e6;have hB6:=(kY.loc _ _).bK hB5 e6;have hr6:=aI.bK (aI.cut hr) e6;have hpl:out.len=ps.length:=by have:=V.1;rw[KF]at this;omega
   have hol:ps.length<=40:=by
    have B:w.map (·.1)⊆List.range 40:=λj S=>by
     obtain⟨x,r,rfl⟩:=zC.1 S;obtain⟨c,l,E,_⟩:=(hI.o x).1 r;have:=(cQ.1 E).1;exact zU.2 O
    have:=hI.n.length_le_of_subset B;rw[hB.1];simpa using this
   refine hrow6.app (ys:=oS (k,s)) rfl rfl ?_ (λv hv=>Hs (l:=[(k,s)]) v (by simpa[fN]using hv)) ?_ ?_ nA λs' v7 hl7 e7 hr7=>?_
   ·intro j u hu;rw[add_lit,zG,hb6.cell];exact hu
   ·simp only;have:(out.len+1)*32<=41*32:=kO O O;omega
   ·simp only;omega
   have hs7:=e7.1;have e57:Ext (λq=>(Q q/\¬D q)/\q<v'.size) v5 v7:=(bO.to e6).trans e7;refine hJ s' v7 ?_ ?_ ?_
   ·rw[e57.2 _ O λr=>by have:=hQ _ r.1.1;omega];exact e5.2 _ O λP=>hbs P.symm
   ·rw[e57.2 _ (by have:=U.map.lt;omega) λr=>hmF.2 r.1.1];exact e5.2 _ U.map.lt λP=>hbm P.symm
   refine⟨_,_,λq=>Q q/\q<v'.size\/(v'.size<=q/\q<z)\/v5.size<=q,λq=>D q/\q<v'.size\/(v'.size<=q/\q<z)/\q<v5.size,ps++[(k,s)],eF5.fC e57 λq g=>.inr (sf (hQ q g.1.1)),λq g=>?_,(eH.loc.bU h5 e57 λq hq5 g r=>?_).mono λq _ g=>?_,?_,⟨?_,λi p y K X=>?_⟩,λq g=>?_,M,hsub',hnd',S.snoc hB1 (λx r=>by
    obtain⟨_,_,_,_,_,_,h2⟩:=(hI.o x).1 r;exact h2) hr.fX hemp (λb hb r X=>by have:=r.2;have:=X.1;omega) k⟩
   ·rcases g with g|g|g
    ·exact hQ q g.1
    ·omega
    ·omega
   ·rcases g.1 with A|A|A
    ·exact A.1.2 r.1.1
    ·exact hnb q r.1.1 A
    ·have:=r.2;omega
   ·have hq5:=g.2;rcases g.1 with A|A|A
    ·exact⟨A.1.1,λr=>by
      rcases r with r|r|r
      ·exact A.1.2 r.1
      ·have:=A.2.1;omega
      ·omega⟩
    ·subst A;exact⟨Z.1,λr=>by
      rcases r with r|r|r
      ·exact Z.2 r.1
      ·omega
      ·omega⟩
    ·exact⟨.inr O,λr=>by
      rcases r with r|r|r<;>omega⟩
   ·rw[U9];have:fN [(k,s)]=oS (k,s):=by simp[fN]
    rw[this];refine aI.mono hr7 λq _ g=>?_;rcases g with g|g
    ·exact⟨.inl ⟨g.1.1,g.2⟩,λhd=>by
      rcases hd with hd|hd
      ·exact g.1.2 hd.1
      ·omega⟩
    ·exact⟨.inr (.inr O),λhd=>by
      rcases hd with hd|hd<;>omega⟩
   ·rw[zK,zK,hB.1];rfl
   ·rcases ma i ps.length with hi|hi
    ·rw[zd hi]at K;rw[zd (by rw[←hB.1];exact hi)]at X;obtain⟨a1,a2,a3⟩:=hB6.2 i p y K X;exact⟨a1,aH.mono (aH.bU a2 e7 λq _ g r=>r.1.2 g.1) λq _ g=>.inl g,a3⟩
    ·rw[zn hi]at K;rw[zn (by rw[←hB.1];exact hi)]at X;have hi0:i-ps.length=0:=by
      have:=(cQ.1 K).1;simp at this;omega
     rw[hi0]at K;rw[show i-w.length=0 by rw[←hB.1];exact hi0]at X;simp at K X;subst K;subst X;exact⟨rfl,aH.mono (aH.bU hr6.fX e7 λq _ g r=>by have:=r.2;have:=g.1;omega) λq _ g=>.inr g,bR.qG hr⟩
   ·rcases g with g|g
    ·exact .inl ⟨hD q g.1,g.2⟩
    ·exact .inr (.inl g.1)
theorem θ (hso:H6)(h:eH σ F Y tb bud ls){R:Sl->Hp->Prop}
 (hR:∀σ' s (Q:Rg),Ext F σ σ'->(∀q,Q q->σ.size<=q)->eH σ' (λq=>Grow F σ q/\¬Q q) Y tb bud (Q6 ZX tb ls)->il s (Kb ZX tb ls) σ' Q->R s σ'):XP.c (aW Y.p) σ R:=by
 refine XP.o ?_;unfold XP.v;exact Jv hso Nf (λc _=>ε c) h hR
theorem τ (hso:H6)(h:eH σ F Y tb bud ls){R:Sl->Hp->Prop}
 (hR:∀σ' s (Q:Rg),Ext F σ σ'->(∀q,Q q->σ.size<=q)->eH σ' (λq=>Grow F σ q/\¬Q q) Y tb bud (Q6 KH tb ls)->il s (Kb KH tb ls) σ' Q->R s σ'):W8.c (aW Y.p) σ R:=by
 refine W8.o ?_;unfold W8.v;exact Jv hso SX RD h hR
end Go.Ar
namespace Go.Proofs
open Go.Vc
set_option maxRecDepth 100000
def Zp.h:Hn:=.q .o1 (.q (.q .o3 .aK) (.q .o1 (.q (.q .o8 (.k (.loop [(3,.one .s),(16,.I)] (.q .o1 (.q (.c .l .l) (.q (.k (.q .o3 .fV)) .o2)))))) .aL)))
def Zp.v (a:R2)(b:Hp)(c:Sl->Hp->Prop):Prop:=WM.c a b λd e=>If (!d) (c ⟨none,0,0⟩ e) (bI a 9 e λg=>ZO.c g e λh i=>VK.c h i λj k=>W6 [.s,bN] (λl=>l ⟨none,0,0⟩ 0 k) λm (n:Sl) (o:Int) p=>If (o<((j.len:Nat):Int)) (Ix j.a j.len o 1 λq=>bM q p λr=>bS a λs=>bB s 9 p λt=>Lk .i64 (.ag 4) t r p λu=>aV #[.I ((u.getD (0,0,0,0)).1),.I ((u.getD (0,0,0,0)).2.1),.I ((u.getD (0,0,0,0)).2.2.1),.I ((u.getD (0,0,0,0)).2.2.2)] 76 p λv w=>App n 4 32 76 [.I 0,.I 0,.I 0,.I 0] ⟨some v,1,1⟩ w λx y=>bL (o+1) λz=>m x z y) (c n p))
theorem Zp.o {a b c}(d:Zp.v a b c):Zp.c a b c:=Wa Tryz.func31 (x:=Zp.h) (R0 d)
def Yu.h:Hn:=.q .o1 (.q (.q .o3 .aK) (.q .o6 .l))
def Yu.v (a:R2)(b:Hp)(c:Sl->Hp->Prop):Prop:=WM.c a b λd e=>If (!d) (c ⟨none,0,0⟩ e) (bE a 0 e λg=>Wc.c g e λh i=>c h i)
theorem Yu.o {a b c}(d:Yu.v a b c):Yu.c a b c:=Wa Tryz.func33 (x:=Yu.h) (R0 d)
def YU.h:Hn:=.q .o1 (.q (.q .o3 .aJ) (.q (.cV (.iw true [12] [(3,.one .ad)] (.tk [0,1,2,3,5,6,7,8] (.all [(4,.all [(9,.take 10 (.all [(11,.all [(12,.done)])])),(11,.all [(9,.take 10 (.all [(12,.done)]))])]),(11,.all [(4,.all [(9,.take 10 (.all [(12,.done)]))])])])))) (.q (.q .o5 (.k (.loop [] (.q (.cV (.seq [.it .i64 (.ag 4),.op])) (.q (.c .l .l) (.k (.q (.cV (.seq [.it .i64 (.ag 4),.op,.op,.op])) (.q .o3 (.c .o7 .l))))))))) (.q (.q .o6 (.k (.loop [(56,.I)] (.q .o1 (.q (.c .l .l) (.q (.k (.q .o4 (.q (.cV (.held true [7] (.tk [0,1,2,3] (.all [(4,.take 5 (.take 6 (.all [(7,.done)])))])))) (.q .o4 (.k (.loop [(70,.I)] (.q .o1 (.q (.c .l .l) (.q (.k (.q .o4 (.cV (.tail 17 (RI.ops 17) [.op])))) .o2))))))))) .o2)))))) (.q (.q .o6 (.k (.loop [(98,.I)] (.q .o1 (.q (.c .l .l) (.q (.k (.q .o3 (.q (.o 15) (.q (.o 18) (.o 19))))) .o2)))))) .aL)))))
def YU.v (a:R2)(b:Hp)(c:Int->Int->Int->Int->Int->Int->Int->Int->Int->Int->Int->Hp->Prop):Prop:=aV #[.I 0,.I 0,.I 0,.I 0,.I 0,.I 0,.I 0,.I 0,.I 0,.I 0,.I 0] 89 b λd e=>WM.c a e λf g=>If (!f) (aR d 0 (.I 0) g λh=>aR d 1 (.I 0) h λi=>aR d 2 (.I 0) i λj=>aR d 3 (.I 0) j λk=>aR d 4 (.I 0) k λl=>aR d 5 (.I 0) l λm=>aR d 6 (.I 0) m λn=>aR d 7 (.I 0) n λo=>aR d 8 (.I 0) o λp=>aR d 9 (.I 0) p λq=>aR d 10 (.I 0) q λr=>aQ d 0 r λs=>aQ d 1 r λt=>aQ d 2 r λu=>aQ d 3 r λv=>aQ d 4 r λw=>aQ d 5 r λx=>aQ d 6 r λy=>aQ d 7 r λz=>aQ d 8 r λaa=>aQ d 9 r λab=>aQ d 10 r λac=>c s t u v w x y z aa ab ac r) (Jn [.ad] (λ(ad:Addr) ae=>bI a 9 ae λag=>su .i64 (.ag 4) ag ae λah ai=>W6 [] (λaj=>aj ai) λak al=>sC .i64 (.ag 4) ah al (bE a 8 al λan=>W6 [bN] (λao=>ao 0 al) λap (aq:Int) ar=>If (aq<((an.len:Nat):Int)) (Ix an.a an.len aq 3 λau=>aY au 0 ar λav=>aX au 1 ar λaw=>bA au 2 ar λax=>aV #[.pointer none,.slice none 0 0,.nilIface] 128 ar λay az=>O1 ax <| aR ay 0 (.pointer av) az λa0=>aR ay 1 (.slice aw.a aw.len aw.cap) a0 λa1=>aR ay 2 (ax) a1 λa2=>dT a2 λa3=>aS a3 ad 1 λa4=>aU a3 ay 0 λa5=>Xs.c a5 a2 λa6 a7=>
 And (a3 a7) <| bL (a4+a6) λa8=>aR ad 1 (.I a8) a7 λa9=>aX ay 1 a9 λba=>W6 [bN] (λbb=>bb 0 a9) λbc (bd:Int) be=>If (bd<((ba.len:Nat):Int)) (Ix ba.a ba.len bd 2 λbf=>aQ bf 0 be λbg=>aX bf 1 be λbh=>aV #[.I 0,.slice none 0 0] 130 be λbi bj=>aR bi 0 (.I bg) bj λbk=>aR bi 1 (.slice bh.a bh.len bh.cap) bk λbl=>aQ ad 2 bl λbm=>aX bi 1 bl λbn=>bE a 0 bl λbp=>aQ bi 0 bl λbq=>Ix bp.a bp.len bq 3 λbr=>aQ br 0 bl λbs=>bL (((bn.len:Nat):Int)*bs) λbt=>bL (bm+bt) λbu=>aR ad 2 (.I bu) bl λbv=>bL (bd+1) λbw=>bc bw bv) (bL (aq+1) λbx=>ap bx be)) (bE a 7 ar λb0=>W6 [bN] (λb1=>b1 0 ar) λb2 (b3:Int) b4=>If (b3<((b0.len:Nat):Int)) (Ix b0.a b0.len b3 1 λb5=>fZ b5 b4 λb6=>X5.c b6 b4 λb7 b8 b9 ca cb cc cd=>aQ ad 3 cd λce=>bL (ce+b7) λcf=>aQ ad 4 cd λcg=>bL (cg+b8) λch=>aQ ad 5 cd λci=>bL (ci+b9) λcj=>aR ad 3 (.I cf) cd λck=>aR ad 4 (.I ch) ck λcl=>aR ad 5 (.I cj) cl λcm=>aQ ad 7 cm λcn=>bL (cn+ca) λco=>aQ ad 6 cm λcp=>bL (cb*256) λcq=>bL (cp+cq) λcr=>aQ ad 8 cm λcs=>bL (cs+cc) λct=>aR ad 7 (.I co) cm λcu=>aR ad 6 (.I cr) cu λcv=>aR ad 8 (.I ct) cv λcw=>bL (b3+1) λcx=>b2 cx cw) (aQ ad 0 b4 λcy=>aQ ad 1 b4 λcz=>
 aQ ad 2 b4 λc0=>aQ ad 3 b4 λc1=>aQ ad 4 b4 λc2=>aQ ad 5 b4 λc3=>aQ ad 6 b4 λc4=>aQ ad 7 b4 λc5=>aQ ad 8 b4 λc6=>aQ ad 9 b4 λc7=>aQ ad 10 b4 λc8=>aR d 0 (.I cy) b4 λc9=>aR d 1 (.I cz) c9 λda=>aR d 2 (.I c0) da λdb=>aR d 3 (.I c1) db λdc=>aR d 4 (.I c2) dc λdd=>aR d 5 (.I c3) dd λde=>aR d 6 (.I c4) de λdf=>aR d 7 (.I c5) df λdg=>aR d 8 (.I c6) dg λdh=>aR d 9 (.I c7) dh λdi=>aR d 10 (.I c8) di λdj=>aQ d 0 dj λdk=>aQ d 1 dj λdl=>aQ d 2 dj λdm=>aQ d 3 dj λdn=>aQ d 4 dj λdp=>aQ d 5 dj λdq=>aQ d 6 dj λdr=>aQ d 7 dj λds=>aQ d 8 dj λdt=>aQ d 9 dj λdu=>aQ d 10 dj λdv=>c dk dl dm dn dp dq dr ds dt du dv dj))) (λdw dx dy=>sk .i64 (.ag 4) ah dy λdz d0=>aV #[.I 0,.I 0,.I 0,.I 0] 76 dy λd1 d2=>aR d1 0 (.I d0.1) d2 λd3=>aR d1 1 (.I d0.2.1) d3 λd4=>aR d1 2 (.I d0.2.2.1) d4 λd5=>aR d1 3 (.I d0.2.2.2) d5 λd6=>aQ d1 2 d6 λd7=>If (d7≥0) (aQ ad 0 d6 λd8=>aQ d1 1 d6 λd9=>bL (d8+d9) λea=>aR ad 0 (.I ea) d6 λeb=>ak eb) (ak d6))) λec=>dT g λed=>bS a λee=>aU ed ee 6 λef=>bS a λeg=>aU ed eg 6 λeh=>(Xz.c ef g λei ej=>And (ed ej) <|
 (Xr.c eh ej λek el=>And (ed el) <| aV #[.I 0,.I 0,.I 0,.I 0,.I 0,.I 0,.I 0,.I 0,.I 0,.I 0,.I 0] 89 el λem en=>And (ed en) <| aR em 0 (.I 0) en λeo=>aR em 1 (.I 0) eo λep=>aR em 2 (.I 0) ep λeq=>aR em 3 (.I 0) eq λer=>aR em 4 (.I 0) er λes=>aR em 5 (.I 0) es λet=>aR em 6 (.I 0) et λeu=>aR em 7 (.I 0) eu λev=>aR em 8 (.I 0) ev λew=>aR em 9 (.I ei) ew λex=>aR em 10 (.I ek) ex λey=>ec em ey) ∧ (aV #[.I 0,.I 0,.I 0,.I 0,.I 0,.I 0,.I 0,.I 0,.I 0,.I 0,.I 0] 89 ej λez e0=>And (ed e0) <| Xr.c eh e0 λe1 e2=>And (ed e2) <| aR ez 0 (.I 0) e2 λe3=>aR ez 1 (.I 0) e3 λe4=>aR ez 2 (.I 0) e4 λe5=>aR ez 3 (.I 0) e5 λe6=>aR ez 4 (.I 0) e6 λe7=>aR ez 5 (.I 0) e7 λe8=>aR ez 6 (.I 0) e8 λe9=>aR ez 7 (.I 0) e9 λfa=>aR ez 8 (.I 0) fa λfb=>aR ez 9 (.I ei) fb λfc=>aR ez 10 (.I e1) fc λfd=>ec ez fd)) ∧ (aV #[.I 0,.I 0,.I 0,.I 0,.I 0,.I 0,.I 0,.I 0,.I 0,.I 0,.I 0] 89 g λfe ff=>And (ed ff) <| Xz.c ef ff λfg fh=>And (ed fh) <| Xr.c eh fh λfi fj=>And (ed fj) <| aR fe 0 (.I 0) fj λfk=>aR fe 1 (.I 0) fk λfl=>aR fe 2 (.I 0) fl λfm=>aR fe 3 (.I 0) fm λfn=>aR fe 4 (.I 0) fn λfo=>aR fe 5 (.I 0) fo λfp=>aR fe 6 (.I 0) fp λfq=>aR fe 7 (.I 0) fq λfr=>aR fe 8 (.I 0) fr λfs=>aR fe 9 (.I fg) fs λft=>aR fe 10 (.I fi) ft λfu=>
 ec fe fu))
theorem YU.o {a b c}(d:YU.v a b c):YU.c a b c:=Wa Tryz.func36 (x:=YU.h) (R0 d)
def Yk.h:Hn:=.q .o2 (.q .fV .l)
def Yk.v (a:R2)(b c d:Int)(e:Hp)(f:Int->Int->Hp->Prop):Prop:=XQ.c a b 0 c d 0 e λg h i=>f g h i
theorem Yk.o {a b c d e f}(g:Yk.v a b c d e f):Yk.c a b c d e f:=Wa Tryz.func52 (x:=Yk.h) (R0 g)
def Y6.h:Hn:=.q .o1 (.q (.q .o3 .aJ) (.q .o5 .l))
def Y6.v (a:R2)(b:Hp)(c:Int->Int->Int->Int->Int->Hp->Prop):Prop:=aV #[.I 0,.I 0,.I 0,.I 0,.I 0] 40 b λd e=>WM.c a e λf g=>If (!f) (aR d 0 (.I 0) g λh=>aR d 1 (.I 0) h λi=>aR d 2 (.I 0) i λj=>aR d 3 (.I 0) j λk=>aR d 4 (.I 0) k λl=>aQ d 0 l λm=>aQ d 1 l λn=>aQ d 2 l λo=>aQ d 3 l λp=>aQ d 4 l λq=>c m n o p q l) (bS a λr=>bM ((r.add 1).add 0) g λs=>bM ((r.add 1).add 1) g λt=>bM ((r.add 1).add 2) g λu=>bM ((r.add 1).add 3) g λv=>bM ((r.add 1).add 4) g λw=>aR d 0 (.I s) g λx=>aR d 1 (.I t) x λy=>aR d 2 (.I u) y λz=>aR d 3 (.I v) z λaa=>aR d 4 (.I w) aa λab=>aQ d 0 ab λac=>aQ d 1 ab λad=>aQ d 2 ab λae=>aQ d 3 ab λaf=>aQ d 4 ab λag=>c ac ad ae af ag ab)
theorem Y6.o {a b c}(d:Y6.v a b c):Y6.c a b c:=Wa Tryz.func55 (x:=Y6.h) (R0 d)
def Zi.h:Hn:=.q .o1 (.q .fV .aL)
def Zi.v (a:R2)(b c:Int)(d:Hp)(e:aN):Prop:=XQ.c a b 1 0 0 c d λf g h=>e g h
theorem Zi.o {a b c d e}(f:Zi.v a b c d e):Zi.c a b c d e:=Wa Tryz.func58 (x:=Zi.h) (R0 f)
def WM.h:Hn:=.q .o1 (.q (.cV (.seq [.op,.op,.op,.dD true 6 (RI.ops 6),.op])) .l)
def WM.v (a:R2)(b:Hp)(c:aO):Prop:=bY (λd e=>c d e) λf=>If (!a.isNone) (bE a 8 b λh=>f (decide (((h.len:Nat):Int)>0)) b) (f false b)
theorem WM.o {a b c}(d:WM.v a b c):WM.c a b c:=Wa Tryz.func65 (x:=WM.h) (R0 d)
def Yr.h:Hn:=.q .o2 (.q (.q .o2 .aK) (.q .o7 .l))
def Yr.v (a:R2)(b:Int)(c:Hp)(d:aN):Prop:=aV #[.I b] 3 c λe f=>bM e f λg=>If (g<0) (d (-1) f) (bE a 7 f λi=>Wk.c i ⟨112,#[],#[.pointer (some e)]⟩ f λj k=>d j k)
theorem Yr.o {a b c d}(e:Yr.v a b c d):Yr.c a b c d:=Wa Tryz.func75 (x:=Yr.h) (R0 e)
def XQ.h:Hn:=.q .o3 (.q (.q .o5 (.q .o2 (.c (.q .o3 .l) .l))) (.k (.loop [] (.k (.q (.o 11) (.q .o1 (.c (.q (.oq 6) .l) .l)))))))
def XQ.v (a:R2)(b c d e f:Int)(g:Hp)(h:Int->Int->Hp->Prop):Prop:=aV #[.I c,.I d,.I e,.I f] 142 g λi j=>aQ i 0 j λk=>aQ i 1 j λl=>aQ i 2 j λm=>aQ i 3 j λn=>Yo.c a b k l m n j λo p=>If (o != 0) (h 0 o p) (W6 [] (λq=>q p) λr s=>YZ.c a b s λt u v w x=>aV #[.I 0,.I 0] 156 x λy z=>aR y 0 (.I u) z λaa=>aR y 1 (.I v) aa λab=>If t (aQ y 0 ab λac=>aQ y 1 ab λad=>h ac ad ab) (r ab))
theorem XQ.o {a b c d e f g h}(i:XQ.v a b c d e f g h):XQ.c a b c d e f g h:=Wa Tryz.func83 (x:=XQ.h) (R0 i)
def Zl.h:Hn:=.q .o1 (.q (.q .o3 .aK) (.q .o5 .l))
def Zl.v (a:R2)(b:Hp)(c:Option Addr->Hp->Prop):Prop:=WM.c a b λd e=>If (!d) (c none e) (bF a 6 e λg=>c g e)
theorem Zl.o {a b c}(d:Zl.v a b c):Zl.c a b c:=Wa Tryz.func84 (x:=Zl.h) (R0 d)
def Kw.h:Hn:=.q .o3 (.q (.k (.q .o4 (.c .aL (.q .o4 .aJ)))) (.q (.cV (.iw true [] [(6,.one .p)] (.take 0 (.take 2 (.all [(1,.all [(3,.take 4 (.all [(5,.take 6 (.done))]))]),(3,.all [(1,.take 4 (.all [(5,.take 6 (.done))]))])]))))) (.q .fV (.q (.q .o3 (.k (.loop [(36,.I)] (.q .o1 (.q (.c .l .l) (.q (.k (.q (.cV (.held true [7] (.take 0 (.take 1 (.take 2 (.take 3 (.take 4 (.take 5 (.take 6 (.all [(7,.take 8 (.take 9 (.take 10 (.take 11 (.take 12 (.done))))))])))))))))) (.o 11))) .o2)))))) (.q (.q .o3 (.k (.loop [(62,.I)] (.q .o1 (.q (.c .l .l) (.q (.k (.q .o9 (.o 12))) .o2)))))) (.q .o3 .l))))))
def Kw.v (a:Sl)(b c d e f:Int)(g:Hp)(h:Option Addr->Int->Hp->Prop):Prop:=aV #[.I b,.I c,.I d,.I e,.I f] 40 g λi j=>ZE.c a j λk l=>If (!k) (h none 2 l) (aQ i 0 l λm=>aQ i 1 l λn=>aQ i 2 l λo=>aQ i 3 l λp=>aQ i 4 l λq=>QA.c m n o p q l λr s=>If (!r) (h none 1 s) (Jn [.p] (λ(t:R2) u=>aQ i 0 u λv=>Q2.c v u λw x y=>bS t λz=>aR z 6 (.pointer w) y λaa=>aQ i 1 aa λab=>W6 [bN] (λac=>ac 0 aa) λad (ae:Int) af=>If (ae<ab) (dT af λag=>bS t λah=>aU ag ah 6 λai=>aS ag i 4 λaj=>QZ.c a ai aj af λak al am=>bE t 7 am λao=>aV #[.pointer ak] 131 am λap aq=>App ao 1 8 131 [.pointer none] ⟨some ap,1,1⟩ aq λar au=>bS t λav=>aR av 7 (.slice ar.a ar.len ar.cap) au λaw=>bL (ae+1) λax=>ad ax aw) (aQ i 2 af λay=>W6 [bN] (λaz=>az 0 af) λa0 (a1:Int) a2=>If (a1<ay) (aQ i 3 a2 λa3=>Q0.c a a3 a2 λa4 a5 a6=>bE t 8 a6 λa8=>aV #[.pointer a4,.slice none 0 0,.nilIface] 128 a6 λa9 ba=>App a8 3 48 128 [.pointer none,.slice none 0 0,.nilIface] ⟨some a9,1,1⟩ ba λbb bc=>bS t λbd=>aR bd 8 (.slice bb.a bb.len bb.cap) bc λbe=>bL (a1+1) λbf=>a0 bf be) (h t 0 a2))) λbg=>dT s λbh=>aS bh i 0 λbi=>aS bh i 1 λbj=>
 aS bh i 2 λbk=>aS bh i 3 λbl=>aS bh i 4 λbm=>(Wc.c a s λbn bo=>And (bh bo) <| Nw (.map #[] 0) bo λbp bq=>And (bh bq) <| aV #[.slice bn.a bn.len bn.cap,.I bi,.I bj,.I bk,.I bl,.I bm,.pointer none,.slice none 0 0,.slice none 0 0,.map (some bp.block)] 46 bq λbr bs=>And (bh bs) <| bg (some br) bs) ∧ (Nw (.map #[] 0) s λbt bu=>And (bh bu) <| Wc.c a bu λbv bw=>And (bh bw) <| aV #[.slice bv.a bv.len bv.cap,.I bi,.I bj,.I bk,.I bl,.I bm,.pointer none,.slice none 0 0,.slice none 0 0,.map (some bt.block)] 46 bw λbx bz=>And (bh bz) <| bg (some bx) bz)))
theorem Kw.o {a b c d e f g h}(i:Kw.v a b c d e f g h):Kw.c a b c d e f g h:=Wa Tryz.func92 (x:=Kw.h) (R0 i)
def Zj.h:Hn:=.q .o1 (.q .o9 .aL)
def Zj.v (a:R2)(b:Int)(c:Hp)(d:aN):Prop:=XQ.c a b 2 0 0 0 c λe f g=>d f g
theorem Zj.o {a b c d}(e:Zj.v a b c d):Zj.c a b c d:=Wa Tryz.func96 (x:=Zj.h) (R0 e)
def Zq.h:Hn:=.q .o1 (.q .o6 .l)
def Zq.v (a:R2)(b c:Int)(d:Hp)(e:aN):Prop:=Zl.c a d λf g=>YC.c f b c g λh i=>e h i
theorem Zq.o {a b c d e}(f:Zq.v a b c d e):Zq.c a b c d e:=Wa Tryz.func97 (x:=Zq.h) (R0 f)
def Yo.h:Hn:=.q .o2 (.q (.k (.q .o4 (.c .aM (.q .o5 (.c .aM (.q .fV .aK)))))) (.q .o4 (.q (.q .o2 .aK) (.q .o9 .aM))))
def Yo.v (a:R2)(b c d e f:Int)(g:Hp)(h:aN):Prop:=aV #[.I c,.I d,.I e,.I f] 142 g λi j=>WM.c a j λk l=>If (!k) (h 5 l) (YW.c a b l λm n=>If (!m) (h 1 n) (bE a 8 n λp=>Ix p.a p.len b 3 λq=>bA q 2 n λr=>And (jO r) <| If (!(lF r)) (h 5 n) (aQ i 0 n λs=>aQ i 1 n λt=>aQ i 2 n λu=>aQ i 3 n λv=>Yx.c a s t u v n λw x=>And (jO w) <| If (lF w) (h 1 x) (bE a 8 x λz=>Ix z.a z.len b 3 λaa=>And (jO w) <| aR aa 2 (w) x λab=>h 0 ab))))
theorem Yo.o {a b c d e f g h}(i:Yo.v a b c d e f g h):Yo.c a b c d e f g h:=Wa Tryz.func98 (x:=Yo.h) (R0 i)
def YZ.h:Hn:=.q .o3 (.q (.k (.q .o4 (.c (.q .o4 .l) (.q .o5 (.c (.q .o4 .l) (.q .fV (.c (.q .o4 .l) .l))))))) (.q (.o 17) (.q .o9 (.q (.cV (.tail 4 (RI.ops 4) [.op,.op])) .l))))
def YZ.v (a:R2)(b:Int)(c:Hp)(d:Bool->Int->Int->Int->Hp->Prop):Prop:=aV #[.I 0,.I 0] 156 c λe f=>WM.c a f λg h=>If (!g) (aR e 0 (.I 0) h λi=>aR e 1 (.I 0) i λj=>aQ e 0 j λk=>aQ e 1 j λl=>d false k l 5 j) (YW.c a b h λm n=>If (!m) (aR e 0 (.I 0) n λo=>aR e 1 (.I 0) o λp=>aQ e 0 p λq=>aQ e 1 p λr=>d false q r 1 p) (bE a 8 n λt=>Ix t.a t.len b 3 λu=>bA u 2 n λv=>And (jO v) <| If (lF v) (aR e 0 (.I 0) n λw=>aR e 1 (.I 0) w λx=>aQ e 0 x λy=>aQ e 1 x λz=>d false y z 5 x) (bE a 8 n λab=>Ix ab.a ab.len b 3 λac=>bA ac 2 n λad=>ZA.c a b (ad) n λae af ag ah=>aV #[.I 0,.I 0] 156 ah λai aj=>aR ai 0 (.I af) aj λak=>aR ai 1 (.I ag) ak λal=>bE a 8 al λan=>Ix an.a an.len b 3 λao=>And (jO ae) <| aR ao 2 (ae) al λap=>And (jO ae) <| aQ ai 0 ap λaq=>aQ ai 1 ap λar=>aR e 0 (.I aq) ap λau=>aR e 1 (.I ar) au λav=>aQ e 0 av λaw=>aQ e 1 av λax=>d (lF ae) aw ax 0 av)))
theorem YZ.o {a b c d}(e:YZ.v a b c d):YZ.c a b c d:=Wa Tryz.func99 (x:=YZ.h) (R0 e)
def YG.h:Hn:=.q .o2 (.q (.k (.q .o4 (.c .aL (.q .o3 .aJ)))) (.q .o1 (.q (.q .o6 (.k (.loop [(6,.I),(23,.I)] (.q .o1 (.q (.c .l .l) (.q (.k (.q .o3 (.q (.q .o3 (.c .l .l)) (.q .fV .o4)))) .o2)))))) (.q .o3 .l))))
def YG.v (a:R2)(b:Int)(c:Hp)(d:Int->Int->Hp->Prop):Prop:=WM.c a c λe f=>If (!e) (d 0 5 f) (If (b<0) (d 0 1 f) (bE a 7 f λh=>W6 [bN,bN] (λi=>i 0 0 f) λj (k:Int) (l:Int) m=>If (l<((h.len:Nat):Int)) (Ix h.a h.len l 1 λn=>fZ n m λo=>If (k≥b) (d k 0 m) (bL (b-k) λp=>Xk.c o p m λq r s=>bL (k+q) λt=>bL (l+1) λu=>j t u s)) (d k 0 m)))
theorem YG.o {a b c d}(e:YG.v a b c d):YG.c a b c d:=Wa Tryz.func100 (x:=YG.h) (R0 e)
def ZB.h:Hn:=.q .o1 (.q (.q .o3 .aK) (.q .o1 (.q (.q .o6 (.k (.loop [(3,.I),(14,.I)] (.q .o1 (.q (.c .l .l) (.q (.k (.q .o3 .o5)) .o2)))))) .aL)))
def ZB.v (a:R2)(b:Hp)(c:aN):Prop:=WM.c a b λd e=>If (!d) (c 0 e) (bE a 7 e λg=>W6 [bN,bN] (λh=>h 0 0 e) λi (j:Int) (k:Int) l=>If (k<((g.len:Nat):Int)) (Ix g.a g.len k 1 λm=>fZ m l λn=>Yl.c n l λo p=>bL (j+o) λq=>bL (k+1) λr=>i q r p) (c j l))
theorem ZB.o {a b c}(d:ZB.v a b c):ZB.c a b c:=Wa Tryz.func101 (x:=ZB.h) (R0 d)
def ZD.h:Hn:=.q (.q .o3 (.c .l .l)) (.q .o6 (.k (.loop [(12,.I)] (.q .o1 (.q (.c .l .l) (.q (.k (.q .o3 .o2)) .o2))))))
def ZD.v (a:R2)(b:Hp)(c:aP):Prop:=WM.c a b λd e=>If (!d) (c e) (bE a 7 e λg=>W6 [bN] (λh=>h 0 e) λi (j:Int) k=>If (j<((g.len:Nat):Int)) (Ix g.a g.len j 1 λl=>fZ l k λm=>Y1.c m k λn=>bL (j+1) λo=>i o n) (c k))
theorem ZD.o {a b c}(d:ZD.v a b c):ZD.c a b c:=Wa Tryz.func102 (x:=ZD.h) (R0 d)
def Zg.h:Hn:=.q .o1 (.q .o5 .l)
def Zg.v (a:R2)(b:Addr)(c:Hp)(d:aO):Prop:=bM b c λe=>Nz 256<|bL (e.tdiv 256) λf=>Zb.c a f c λg h=>d g h
theorem Zg.o {a b c d}(e:Zg.v a b c d):Zg.c a b c d:=Wa Tryz.func112 (x:=Zg.h) (R0 e)
def QA.h:Hn:=.q .o2 (.q (.cV (.seq [.op,.op,.op,.op,.dD true 3 (RI.ops 3),.op,.dD true 4 (RI.ops 4),.op,.dD true 3 (RI.ops 3),.op,.dD true 3 (RI.ops 3),.op,.dD true 3 (RI.ops 3),.op,.dD true 3 (RI.ops 3),.op,.dD true 3 (RI.ops 3),.op,.dD true 3 (RI.ops 3),.op,.dD true 3 (RI.ops 3),.op,.dD true 3 (RI.ops 3),.op])) .l)
def QA.v (a b c d e:Int)(f:Hp)(g:aO):Prop:=aV #[.I a,.I b,.I c,.I d,.I e] 40 f λh i=>aQ h 0 i λj=>bY (λk l=>bY (λm n=>bY (λo p=>bY (λq r=>bY (λs t=>bY (λu v=>bY (λw x=>bY (λy z=>bY (λaa ab=>bY (λac ad=>g ac ad) λae=>If aa (aQ h 4 ab λaf=>ae (decide (af<=8)) ab) (ae false ab)) λag=>If y (aQ h 4 z λah=>ag (decide (ah≥0)) z) (ag false z)) λai=>If w (aQ h 3 x λaj=>ai (decide (aj<=65536)) x) (ai false x)) λak=>If u (aQ h 3 v λal=>ak (decide (al≥0)) v) (ak false v)) λam=>If s (aQ h 2 t λan=>am (decide (an<=4)) t) (am false t)) λao=>If q (aQ h 2 r λap=>ao (decide (ap≥1)) r) (ao false r)) λaq=>If o (aQ h 1 p λar=>aq (decide (ar<=4)) p) (aq false p)) λau=>If m (aQ h 1 n λav=>au (decide (av≥1)) n) (au false n)) λaw=>If k (aQ h 0 l λax=>Nz 16 <| aw ((ax.tmod 16)==0) l) (aw false l)) λay=>If (j≥32) (aQ h 0 i λaz=>ay (decide (az<=1024)) i) (ay false i)
theorem QA.o {a b c d e f g}(h:QA.v a b c d e f g):QA.c a b c d e f g:=Wa Tryz.func123 (x:=QA.h) (R0 h)
def YW.h:Hn:=.q .o1 (.q (.cV (.seq [.op,.op,.op,.dD true 7 (RI.ops 7),.op])) .l)
def YW.v (a:R2)(b:Int)(c:Hp)(d:aO):Prop:=bY (λe f=>d e f) λg=>If (b≥0) (bE a 8 c λi=>g (decide (b<((i.len:Nat):Int))) c) (g false c)
theorem YW.o {a b c d}(e:YW.v a b c d):YW.c a b c d:=Wa Tryz.func131 (x:=YW.h) (R0 e)
def Yx.h:Hn:=.q .o2 (.q (.q .o2 (.k (.q .o2 (.c (.q (.q (.cV (.seq [.op,.op,.op,.op,.dD false 3 (RI.ops 3)])) .aK) (.q (.cV (.held true [8] (.tk [0,1,2,3,4,5,6,7] (.all [(8,.tk [9,10,11,12,13] (.done))])))) (.q .o1 (.k (.q .o2 (.c (.q .o4 .l) (.q .o2 (.c (.q .o8 .l) .l)))))))) (.q .o2 (.c (.q .o5 .l) (.q .o2 (.c (.q .o3 .l) .l)))))))) .aM)
def Yx.v (a:R2)(b c d e:Int)(f:Hp)(g:Value->Hp->Prop):Prop:=aV #[.I b,.I c,.I d,.I e] 142 f λh i=>aQ h 0 i λj=>If (j==0) (aQ h 1 i λk=>bY (λl m=>If l (g (.nilIface) m) (dT m λn=>bS a λo=>aT n o 0 λp=>aS n h 1 λq=>aS n h 2 λr=>Z2.c p q r m λs t u=>If (t==0) (g (.iface 260 (.agg #[.I s])) u) (If (t==4) (aQ h 1 u λv=>bL (v+256) λw=>bL (w-1) λx=>Nz 256<|bL (x.tdiv 256) λy=>g (.iface 262 (.agg #[.I y])) u) (g (.nilIface) u)))) λz=>If (k<1) (z true i) (aQ h 1 i λaa=>z (decide (aa>16384)) i)) (If (j==1) (aQ h 3 i λab=>g (.iface 264 (.agg #[.I ab])) i) (If (j==2) (g (.iface 266 (.agg #[])) i) (g (.nilIface) i)))
theorem Yx.o {a b c d e f g}(h:Yx.v a b c d e f g):Yx.c a b c d e f g:=Wa Tryz.func132 (x:=Yx.h) (R0 h)
def ZA.h:Hn:=.q .o2 (.q .o7 (.q (.cV (.held true [] (.tk [0,1,2,3,4,5] (.all [(6,.take 7 (.all [(8,.take 9 (.done))]))])))) (.jI [] (.q .o1 (.k (.q .o3 (.c (.q .o2 (.q (.q (.cV (.held true [6] (.tk [0,1,2,3,4,5] (.all [(6,.tk [7,8,9,10,11] (.done))])))) (.q .o2 (.c (.q (.cV (.held true [17] (.tk [0,1,2,3,4,5,6,7,8,9,10,11,12] (.all [(13,.tk [14,15,16] (.all [(17,.done)]))])))) .l) .l))) (.q (.cV (.held true [6] (.tk [0,1,2,3,4,5] (.all [(6,.tk [7,8,9,10,11] (.done))])))) (.q .o8 .l)))) (.q .o3 (.c (.q .o2 (.jI [] (.q (.oq 12) (.c (.q .o9 (.q .o2 (.c (.q .o6 (.q .o5 .l)) .l))) .l)) (.q .o5 .l))) (.q .o3 (.c (.q .o2 (.q (.q (.o 11) (.q .o3 (.c (.q .o6 (.q .o5 .l)) .l))) (.q .o5 .l))) (.q .o3 (.c (.q .o2 (.q (.q .o5 (.q .o2 (.c (.q .o4 .l) .l))) (.q .o5 .l))) (.q .o3 (.c (.q .o2 (.q .o8 (.q .o4 (.q (.cV (.tail 9 (RI.ops 9) [.op])) (.q (.cV (.held true [20] (.tk [0,1,2,3,4,5,6,7,8,9,10,11,12,13,14,15] (.all [(16,.tk [17,18,19] (.all [(20,.done)]))])))) .l))))) (.q .o3 (.c (.q .o2 (.q .o9 (.q (.q .o2 (.c (.q .o4 .l) .l)) (.q (.o 11) .l)))) (.q .o3 (.c (.q .o2 (.q .o9 .l)) (.q .o3 (.c (.q .o2 (.jI [] (.q (.cV (.held true [8] (.tk [0,1,2,3,4,5,6,7] (.all [(8,.tk [9,10,11,12,13] (.done))])))) (.q .o3 (.c .o6 .l))) (.q .o9 (.jI [] (.q .o5 (.c (.cV (.held true [13] (.tk [0,1,2,3,4,5,6,7,8] (.all [(9,.all [(10,.take 11 (.take 12 (.all [(13,.done)])))])])))) .l)) (.q .o6 .l))))) (.q .o3 (.c (.q .o2 (.q .o8 (.q .fV (.q (.cV (.held true [5] (.take 0 (.take 1 (.take 2 (.take 4 (.all [(3,.all [(5,.done)])]))))))) (.q .o6 .l))))) (.q .o3 (.c (.q .o2 (.cV (.tail 10 (RI.ops 10) [.op]))) (.q .o3 (.c (.q .o2 (.q .o9 (.q .o6 .l))) .l)))))))))))))))))))))))) (.q .o3 .l))))
def ZA.v (a:R2)(b:Int)(c:Value)(d:Hp)(e:Value->Int->Int->Hp->Prop):Prop:=aV #[.I 0,.I 0] 156 d λf g=>bE a 8 g λi=>Ix i.a i.len b 3 λj=>dT g λk=>bS a λl=>aT k l 7 λm=>ZI.c a b g λn o=>And (k o) <| Ix m.a m.len n 1 λp=>fZ p o λq=>And (k o) <| Jn [] (λr=>aR f 0 (.I 0) r λs=>aR f 1 (.I 0) s λt=>aQ f 0 t λu=>aQ f 1 t λv=>e (.nilIface) u v t) λw=>∃t52:Int,∃is:Bool,kN c 260 [.I t52] [.I 0] is ∧ (If is (aV #[.I 0] 260 o λx y=>dL x (.I t52) y λz=>dT z λaa=>bS (some j) λab=>aU aa ab 0 λac=>aS aa x 0 λad=>Yd.c ac ad z λae af ag=>If (af==0) (dT ag λah=>bS a λai=>aT ah ai 0 λaj=>aS ah x 0 λak=>Ix aj.a aj.len ak 3 λal=>aS ah al 0 λam=>aS ah x 0 λan=>Za.c a ae am an ag λao ap aq ar=>And (ah ar) <| aR f 0 (.I ap) ar λau=>aR f 1 (.I aq) au λav=>aQ f 0 av λaw=>aQ f 1 av λax=>e (ao) aw ax av) (dT ag λay=>bS (some j) λaz=>aU ay az 0 λa0=>aS ay x 0 λa1=>Yn.c a0 a1 ag λa2 a3 a4=>aQ x 0 a4 λa5=>aR f 0 (.I 0) a4 λa6=>aR f 1 (.I 0) a6 λa7=>aQ f 0 a7 λa8=>aQ f 1 a7 λa9=>e (.iface 270 (.agg #[.I a5,.I a2])) a8 a9 a7)) (∃t99:Int,∃t991:Int,∃is1:Bool,kN c 270 [.I t99,.I t991] [.I 0,.I 0] is1 ∧
 (If is1 (aV #[.I 0,.I 0] 270 o λba bb=>aR ba 0 (.I t99) bb λbc=>aR ba 1 (.I t991) bc λbd=>Jn [] (λbe=>aQ ba 0 be λbf=>aQ ba 1 be λbg=>aR f 0 (.I 0) be λbh=>aR f 1 (.I 0) bh λbi=>aQ f 0 bi λbj=>aQ f 1 bi λbk=>e (.iface 275 (.agg #[.I bf,.I bg])) bj bk bi) λbl=>aQ ba 1 bd λbm=>bE a 0 bd λbo=>aQ ba 0 bd λbp=>Ix bo.a bo.len bp 3 λbq=>aQ bq 2 bd λbr=>If (bm==br) (aQ ba 0 bd λbs=>WB.c q bs bd λbt bu bv=>If (bu==0) (aQ ba 0 bv λbw=>YD.c a b bw bt bv λbx=>aR f 0 (.I 0) bx λbz=>aR f 1 (.I 0) bz λb0=>aQ f 0 b0 λb1=>aQ f 1 b0 λb2=>e (.iface 274 (.agg #[])) b1 b2 b0) (bl bv)) (bl bd)) (∃t135:Int,∃t1351:Int,∃is2:Bool,kN c 275 [.I t135,.I t1351] [.I 0,.I 0] is2 ∧ (If is2 (aV #[.I 0,.I 0] 275 o λb3 b4=>aR b3 0 (.I t135) b4 λb5=>aR b3 1 (.I t1351) b5 λb6=>aQ b3 0 b6 λb7=>aQ b3 1 b6 λb8=>WE.c q b7 b8 b6 λb9 ca cb=>If (((b9.len:Nat):Int)>0) (aQ b3 0 cb λcc=>YD.c a b cc b9 cb λcd=>aR f 0 (.I 0) cd λce=>aR f 1 (.I 0) ce λcf=>aQ f 0 cf λcg=>aQ f 1 cf λch=>e (.iface 274 (.agg #[])) cg ch cf) (aQ b3 0 cb λci=>aQ b3 1 cb λcj=>aR f 0 (.I 0) cb λck=>aR f 1 (.I 0) ck λcl=>aQ f 0 cl λcm=>aQ f 1 cl λcn=>
 e (.iface 277 (.agg #[.I ci,.I cj])) cm cn cl)) (∃t162:Int,∃t1621:Int,∃is3:Bool,kN c 277 [.I t162,.I t1621] [.I 0,.I 0] is3 ∧ (If is3 (aV #[.I 0,.I 0] 277 o λco cp=>aR co 0 (.I t162) cp λcq=>aR co 1 (.I t1621) cq λcr=>aQ co 0 cr λcs=>Yf.c q cs cr λct cu=>If (ct != 0) (aR f 0 (.I 0) cu λcv=>aR f 1 (.I ct) cv λcw=>aQ f 0 cw λcx=>aQ f 1 cw λcy=>e (.nilIface) cx cy cw) (aQ co 0 cu λcz=>aQ co 1 cu λc0=>aR f 0 (.I 0) cu λc1=>aR f 1 (.I 0) c1 λc2=>aQ f 0 c2 λc3=>aQ f 1 c2 λc4=>e (.iface 275 (.agg #[.I cz,.I c0])) c3 c4 c2)) (∃is4:Bool,kN c 274 [] [] is4 ∧ (If is4 (aV #[] 274 o λc5 c6=>bE (some j) 1 c6 λc8=>Ix c8.a c8.len 0 2 λc9=>aQ c9 0 c6 λda=>aX c9 1 c6 λdb=>aV #[.I 0,.slice none 0 0] 130 c6 λdc dd=>aR dc 0 (.I da) dd λde=>aR dc 1 (.slice db.a db.len db.cap) de λdf=>bS (some j) λdg=>aR dg 1 (.slice none 0 0) df λdh=>bF (some j) 0 dh λdj=>aQ dc 0 dh λdk=>aX dc 1 dh λdl=>eW dl 1 1 (dl.len:Nat) (dl.cap:Nat) λdm=>Ym.c dj dk dm dh λdn dp=>dT dp λdq=>aT dq dc 1 λdr=>Ix dr.a dr.len 0 1 λds=>gQ dq bN ds λ(dt:Int)=>bS a λdu=>aT dq du 0 λdv=>aS dq dc 0 λdw=>Ix dv.a dv.len dw 3 λdx=>aS dq dx 0 λdy=>
 aS dq dc 0 λdz=>Za.c a dt dy dz dp λd0 d1 d2 d3=>And (dq d3) <| aR f 0 (.I d1) d3 λd4=>aR f 1 (.I d2) d4 λd5=>aQ f 0 d5 λd6=>aQ f 1 d5 λd7=>e (d0) d6 d7 d5) (∃t217:Int,∃is5:Bool,kN c 262 [.I t217] [.I 0] is5 ∧ (If is5 (aV #[.I 0] 262 o λd8 d9=>dL d8 (.I t217) d9 λea=>aQ d8 0 ea λeb=>WS.c q eb 1 ea λec ed ee=>If (ed != 0) (aR f 0 (.I 0) ee λef=>aR f 1 (.I ed) ef λeg=>aQ f 0 eg λeh=>aQ f 1 eg λei=>e (.nilIface) eh ei eg) (bL (ec*256) λej=>aQ d8 0 ee λek=>bL (ek*256) λel=>Za.c a ej el (-1) ee λem en eo ep=>aR f 0 (.I en) ep λeq=>aR f 1 (.I eo) eq λer=>aQ f 0 er λes=>aQ f 1 er λet=>e (em) es et er)) (∃t240:Int,∃is6:Bool,kN c 264 [.I t240] [.I 0] is6 ∧ (If is6 (aV #[.I 0] 264 o λeu ev=>dL eu (.I t240) ev λew=>aQ eu 0 ew λex=>Zy.c a b ex ew λey ez e0 e1=>aR f 0 (.I ez) e1 λe2=>aR f 1 (.I e0) e2 λe3=>aQ f 0 e3 λe4=>aQ f 1 e3 λe5=>e (ey) e4 e5 e3) (∃t250:Int,∃t2501:Int,∃is7:Bool,kN c 282 [.I t250,.I t2501] [.I 0,.I 0] is7 ∧ (If is7 (aV #[.I 0,.I 0] 282 o λe6 e7=>aR e6 0 (.I t250) e7 λe8=>aR e6 1 (.I t2501) e8 λe9=>Jn [] (λfa=>bE (some j) 1 fa λfc=>eW fc 2 1 (fc.len:Nat) (fc.cap:Nat) λfd=>bS (some j) λfe=>aR fe 1 (.slice fd.a fd.len fd.cap) fa λff=>Jn [] (λfg=>
 W4.c a b fg λfh fi=>aR f 0 (.I 0) fi λfj=>aR f 1 (.I 0) fj λfk=>aQ f 0 fk λfl=>aQ f 1 fk λfm=>e (fh) fl fm fk) λfn=>bF (some j) 0 ff λfp=>Yj.c fp ff λfq fr=>If fq (dT fr λfs=>bS (some j) λft=>aT fs ft 1 λfu=>bS (some j) λfv=>aU fs fv 0 λfw=>W8.c fw fr λfx fy=>And (fs fy) <| App fu 2 32 130 [.I 0,.slice none 0 0] fx fy λfz f0=>And (fs f0) <| bS (some j) λf1=>aR f1 1 (.slice fz.a fz.len fz.cap) f0 λf2=>fn f2) (fn fr)) λf3=>dT e9 λf4=>bS (some j) λf5=>aU f4 f5 0 λf6=>aS f4 e6 0 λf7=>aS f4 e6 1 λf8=>YR.c f6 f7 f8 e9 λf9 ga gb=>If (((f9.len:Nat):Int)>0) (aQ e6 0 gb λgc=>YD.c a b gc f9 gb λgd=>f3 gd) (f3 gb)) (∃is8:Bool,kN c 285 [] [] is8 ∧ (If is8 (aV #[] 285 o λge gf=>bE (some j) 1 gf λgh=>Ix gh.a gh.len 0 2 λgi=>aQ gi 0 gf λgj=>aX gi 1 gf λgk=>aV #[.I 0,.slice none 0 0] 130 gf λgl gm=>aR gl 0 (.I gj) gm λgn=>aR gl 1 (.slice gk.a gk.len gk.cap) gn λgo=>bE (some j) 1 go λgq=>eW gq 2 1 (gq.len:Nat) (gq.cap:Nat) λgr=>Wp.c gr go λgs gt=>bS (some j) λgu=>aR gu 1 (.slice gs.a gs.len gs.cap) gt λgv=>dT gv λgw=>aS gw gl 0 λgx=>aT gw gl 1 λgy=>ZI.c a b gv λgz g0=>And (gw g0) <| ZC.c a gz gx gy g0 λg1=>
 W4.c a b g1 λg2 g3=>aR f 0 (.I 0) g3 λg4=>aR f 1 (.I 0) g4 λg5=>aQ f 0 g5 λg6=>aQ f 1 g5 λg7=>e (g2) g6 g7 g5) (∃t332:Int,∃t3321:Int,∃is9:Bool,kN c 289 [.I t332,.I t3321] [.I 0,.I 0] is9 ∧ (If is9 (aV #[.I 0,.I 0] 289 o λg8 g9=>aR g8 0 (.I t332) g9 λha=>aR g8 1 (.I t3321) ha λhb=>bE a 7 hb λhd=>aQ g8 1 hb λhe=>Ix hd.a hd.len he 1 λhf=>fZ hf hb λhg=>aQ g8 0 hb λhh=>WR.c hg hh hb λhi hj=>w hj) (∃is10:Bool,kN c 266 [] [] is10 ∧ (If is10 (aV #[] 266 o λhk hl=>bF (some j) 0 hl λhn=>XP.c hn hl λho hp=>bS (some j) λhq=>aR hq 1 (.slice ho.a ho.len ho.cap) hp λhr=>W4.c a b hr λhs ht=>aR f 0 (.I 0) ht λhu=>aR f 1 (.I 0) hu λhv=>aQ f 0 hv λhw=>aQ f 1 hv λhx=>e (hs) hw hx hv) (w o))))))))))))))))))))))
theorem ZA.o {a b c d e}(f:ZA.v a b c d e):ZA.c a b c d e:=Wa Tryz.func133 (x:=ZA.h) (R0 f)
def ZI.h:Hn:=.q .o1 (.q .o8 .l)
def ZI.v (a:R2)(b:Int)(c:Hp)(d:aN):Prop:=bE a 7 c λf=>Nz ((f.len:Nat):Int) <| d (b.tmod ((f.len:Nat):Int)) c
theorem ZI.o {a b c d}(e:ZI.v a b c d):ZI.c a b c d:=Wa Tryz.func170 (x:=ZI.h) (R0 e)
def Za.h:Hn:=.q .o2 (.q (.cV (.held true [12] (.tk [0,1,2,3,4,5,6,7,8,9] (.all [(10,.take 11 (.all [(12,.done)]))])))) (.q .o4 .l))
def Za.v (a:R2)(b c d:Int)(e:Hp)(f:Value->Int->Int->Hp->Prop):Prop:=aV #[.I 0,.I 0] 156 e λg h=>dT h λi=>bS a λj=>gQ i .m (j.add 9) λ(k:Option Nat)=>Yr.c a b h λl m=>And (i m) <| k6 .i64 (.ag 4) k b (b,c,d,l) m λn=>aR g 0 (.I b) n λo=>aR g 1 (.I 0) o λp=>aQ g 0 p λq=>aQ g 1 p λr=>f (.nilIface) q r p
theorem Za.o {a b c d e f}(g:Za.v a b c d e f):Za.c a b c d e f:=Wa Tryz.func172 (x:=Za.h) (R0 g)
def YD.h:Hn:=.cV (.held true [20] (.tk [0,1,2,3,4,5,6,7,8,9,10,11,12,13,14,15] (.all [(16,.all [(17,.take 18 (.take 19 (.all [(20,.done)])))])])))
def YD.v (a:R2)(b c:Int)(d:Sl)(e:Hp)(f:aP):Prop:=dT e λg=>bS a λh=>aT g h 8 λi=>bS a λj=>aT g j 8 λk=>Ix k.a k.len b 3 λl=>aT g l 1 λm=>aV #[.I c,.slice d.a d.len d.cap] 130 e λn o=>And (g o) <| App m 2 32 130 [.I 0,.slice none 0 0] ⟨some n,1,1⟩ o λp q=>And (g q) <| Ix i.a i.len b 3 λr=>aR r 1 (.slice p.a p.len p.cap) q λs=>f s
theorem YD.o {a b c d e f}(g:YD.v a b c d e f):YD.c a b c d e f:=Wa Tryz.func175 (x:=YD.h) (R0 g)
def Zy.h:Hn:=.q .o2 (.q (.o 12) (.q (.q .o2 (.c (.jI [] (.q .o4 (.q .o2 (.c (.q (.o 16) (.q (.cV (.seq [.op,.op,.op,.dD true 2 [.op,.op],.op,.dD true 3 (RI.ops 3)])) (.c (.q .o3 .l) .l))) .l))) (.q .o3 .l)) .l)) (.q .o6 (.q (.q .o3 (.c (.q .o9 .l) .l)) (.q .o7 (.q .o8 .l))))))
def Zy.v (a:R2)(b c:Int)(d:Hp)(e:Value->Int->Int->Hp->Prop):Prop:=aV #[.I 0,.I 0] 156 d λf g=>bI a 9 g λi=>Lk .i64 (.ag 4) i c g λj=>aV #[.I 0,.I 0,.I 0,.I 0] 76 g λk l=>aR k 0 (.I ((j.getD (0,0,0,0)).1)) l λm=>aR k 1 (.I ((j.getD (0,0,0,0)).2.1)) m λn=>aR k 2 (.I ((j.getD (0,0,0,0)).2.2.1)) n λo=>aR k 3 (.I ((j.getD (0,0,0,0)).2.2.2)) o λp=>If (!j.isSome) (Jn [] (λq=>aR f 0 (.I 0) q λr=>aR f 1 (.I 8) r λs=>aQ f 0 s λt=>aQ f 1 s λu=>e (.nilIface) t u s) λv=>Yr.c a c p λw x=>If (w≥0) (bE a 7 x λz=>Ix z.a z.len w 1 λaa=>fZ aa x λab=>Y3.c ab c x λac ad ae af=>bY (λag ah=>bY (λai aj=>If ai (aR f 0 (.I 0) aj λak=>aR f 1 (.I 9) ak λal=>aQ f 0 al λam=>aQ f 1 al λan=>e (.nilIface) am an al) (v aj)) λao=>If ag (ao (ad==c) ah) (ao false ah)) λap=>If (ae==0) (ap (decide (ac≥0)) af) (ap false af)) (v x)) (bI a 9 p λar=>mK .i64 (.ag 4) ar c p λau=>aQ k 2 au λav=>If (av<0) (Nz 256<|bL (c.tdiv 256) λaw=>aQ k 3 au λax=>aR f 0 (.I 0) au λay=>aR f 1 (.I 0) ay λaz=>aQ f 0 az λa0=>aQ f 1 az λa1=>e (.iface 289 (.agg #[.I aw,.I ax])) a0 a1 az) (aQ k 2 au λa2=>aV #[.I c] 3 au λa3 a4=>YD.c a b a2 ⟨some a3,1,1⟩ a4 λa5=>aQ k 2 a5 λa6=>aR f 0 (.I 0) a5 λa7=>
 aR f 1 (.I 0) a7 λa8=>aQ f 0 a8 λa9=>aQ f 1 a8 λba=>e (.iface 282 (.agg #[.I a6,.I c])) a9 ba a8))
theorem Zy.o {a b c d e}(f:Zy.v a b c d e):Zy.c a b c d e:=Wa Tryz.func180 (x:=Zy.h) (R0 f)
def W4.h:Hn:=.q .o1 (.q (.q .fV .aK) (.q .o3 .l))
def W4.v (a:R2)(b:Int)(c:Hp)(d:Value->Hp->Prop):Prop:=bE a 8 c λf=>Ix f.a f.len b 3 λg=>aX g 1 c λh=>If (((h.len:Nat):Int)==0) (d (.nilIface) c) (d (.iface 285 (.agg #[])) c)
theorem W4.o {a b c d}(e:W4.v a b c d):W4.c a b c d:=Wa Tryz.func184 (x:=W4.h) (R0 e)
def ZC.h:Hn:=.q .o1 (.q .o7 (.q (.q .o4 (.k (.loop [(23,.I)] (.q .o1 (.q (.c .l .l) (.q (.k (.q .o3 (.q .o4 (.o 11)))) .o2)))))) (.jI [] (.q (.oq 9) (.c (.q (.cV (.held true [] (.tk [0,1,2,3,4,5,6,7,8,9,10] (.all [(11,.tk [12,13,14,15,16] (.done))])))) (.q (.cV (.seq [.op,.op,.dD true 2 [.op,.op]])) (.c .l .l))) .l)) (.q .o3 (.k (.loop [(72,.I)] (.q .o1 (.q (.c .l .l) (.q (.k (.q .o5 (.q .o3 (.c (.cV (.tail 10 (RI.ops 10) [.op])) .l)))) .o2)))))))))
def ZC.v (a:R2)(b c:Int)(d:Sl)(e:Hp)(f:aP):Prop:=aV #[.I c,.slice d.a d.len d.cap] 130 e λg h=>bS a λi=>aX i 7 h λj=>Mk ((j.len:Nat):Int) ((j.len:Nat):Int) 24 69 [.slice none 0 0] h λk l=>aX g 1 l λm=>W6 [bN] (λn=>n 0 l) λo (p:Int) q=>If (p<((m.len:Nat):Int)) (Ix m.a m.len p 1 λr=>bM r q λs=>Yr.c a s q λt u=>Ix k.a k.len t 1 λv=>jk v u λw=>aV #[.I s] 3 u λx y=>App w 1 8 3 [.I 0] ⟨some x,1,1⟩ y λz aa=>Ix k.a k.len t 1 λab=>dL ab (.slice z.a z.len z.cap) aa λac=>bL (p+1) λad=>o ad ac) (Jn [] (λae=>W6 [bN] (λaf=>af 0 ae) λag (ah:Int) ai=>If (ah<((k.len:Nat):Int)) (Ix k.a k.len ah 1 λaj=>jk aj ai λak=>If (((ak.len:Nat):Int)>0) (bE a 7 ai λam=>Ix am.a am.len ah 1 λan=>fZ an ai λao=>aQ g 0 ai λap=>WA.c ao ap ak ai λaq ar=>bL (ah+1) λau=>ag au ar) (bL (ah+1) λav=>ag av ai)) (f ai)) λaw=>Ix k.a k.len b 1 λax=>jk ax q λay=>aX g 1 q λaz=>If (((ay.len:Nat):Int)==((az.len:Nat):Int)) (dT q λa0=>bS a λa1=>aT a0 a1 7 λa2=>Ix a2.a a2.len b 1 λa3=>gQ a0 .p a3 λ(a4:R2)=>aS a0 g 0 λa5=>aT a0 g 1 λa6=>WK.c a4 a5 a6 q λa7 a8 a9=>And (a0 a9) <| bY (λba bb=>If ba (f bb) (aw bb)) λbc=>If a7 (bc (a8==0) a9) (bc false a9)) (aw q))
theorem ZC.o {a b c d e f}(g:ZC.v a b c d e f):ZC.c a b c d e f:=Wa Tryz.func186 (x:=ZC.h) (R0 g)
end Go.Proofs
namespace Go.Ar
open Go Go.Vc Go.Proofs
def nv:Option Ph->Value
 | none=>.nilIface
 | some (.take k)=>.iface 260 (.agg #[.int .i64 (k:Int)])
 | some (.cN k w)=>.iface 270 (.agg #[.int .i64 (k:Int),.int .i64 (w:Int)])
 | some (.cP k w)=>.iface 275 (.agg #[.int .i64 (k:Int),.int .i64 (w:Int)])
 | some (.grow k w)=>.iface 277 (.agg #[.int .i64 (k:Int),.int .i64 (w:Int)])
 | some .fill=>.iface 274 (.agg #[])
 | some (.eR m)=>.iface 262 (.agg #[.int .i64 (m:Int)])
 | some (.find x)=>.iface 264 (.agg #[.int .i64 x])
 | some (.put k x)=>.iface 282 (.agg #[.int .i64 (k:Int),.int .i64 x])
 | some .back=>.iface 285 (.agg #[])
 | some (.dI s a)=>.iface 289 (.agg #[.int .i64 s,.int .i64 a])
 | some .drain=>.iface 266 (.agg #[])
theorem wA (p:Option Ph):jO (nv p):=by
 cases p with
 | none=>exact .inl rfl
 | some p=>cases p<;>exact .inr ⟨_,_,rfl⟩
theorem Ao (p:Option Ph):lF (nv p)=p.isNone:=by
 cases p with
 | none=>rfl
 | some p=>cases p<;>rfl
inductive lu where
 | hd|dB|sp|fY|cL|live
 | ar (k:Nat)
 | ca (k:Nat)
 | hn (k:Nat)
 deriving DecidableEq
structure eC where
 c:ie
 h:Sl
structure dR where
 p:Nat
 hs:Nat
 lm:Nat
 dB:Sl
 fY:Sl
 cL:Sl
 ys:List Lay
 ts:List eC
def uu (L:dR)(c:Cf):List Value:=[.slice L.dB.a L.dB.len L.dB.cap,.int .i64 (c.aF:Int),.int .i64 (c.ik:Int),.int .i64 (c.threads:Int),.int .i64 (c.dA:Int),.int .i64 (c.room:Int),
 .pointer (some ⟨L.hs,0,none⟩),.slice L.fY.a L.fY.len L.fY.cap,.slice L.cL.a L.cL.len L.cL.cap,.map (some L.lm)]
def jP (x:eC×Th):List Value:=[.pointer (some ⟨x.1.c.p,0,none⟩),.slice x.1.h.a x.1.h.len x.1.h.cap,nv x.2.ph]
def ib (ts:List eC)(bQ:List Th):List Value:=(ts.zip bQ).flatMap jP
theorem HU:∀{ts:List eC} {bQ:List Th},ts.length=bQ.length->(ib ts bQ).length=bQ.length*3
 | [],[],_=>rfl
 | x::ts,h::bQ,e=>by
  have e1:ib (x::ts) (h::bQ)=jP (x,h)++ib ts bQ:=rfl;have a:(jP (x,h)).length=3:=rfl;rw[e1,zK,HU (by simpa using e),a,zP];omega
 | [],_::_,e=>by simp at e
 | _::_,[],e=>by simp at e
theorem BA:∀{ts:List eC} {bQ:List Th} {i:Nat} {x:eC} {h:Th},ts[i]?=some x->bQ[i]?=some h->∀{d:Nat},d<3->(ib ts bQ)[3*i+d]?=(jP (x,h))[d]?
 | [],_,_,_,_,h1,_,_,_=>by simp at h1
 | _::_,[],_,_,_,_,h2,_,_=>by simp at h2
 | y::ts,g::bQ,0,x,h,h1,h2,d,hd=>by
  have e1:ib (y::ts) (g::bQ)=jP (y,g)++ib ts bQ:=rfl;have a:(jP (y,g)).length=3:=rfl;simp at h1 h2;subst h1;subst h2;rw[e1,zd O];congr 1;omega
 | y::ts,g::bQ,i+1,x,h,h1,h2,d,hd=>by
  have e1:ib (y::ts) (g::bQ)=jP (y,g)++ib ts bQ:=rfl;have a:(jP (y,g)).length=3:=rfl;rw[e1,zn O,a,show 3*(i+1)+d-3=3*i+d by omega];exact BA (by simpa using h1) (by simpa using h2) hd
theorem yP:∀{ts:List eC} {bQ:List Th} {i:Nat} {x:eC} {h:Th},ts[i]?=some x->bQ[i]?=some h->∀{d:Nat} {v:Value} {x':eC} {h':Th},d<3->jP (x',h')=(jP (x,h)).set d v →
 (ib ts bQ).set (3*i+d) v=ib (ts.set i x') (bQ.set i h')
 | [],_,_,_,_,h1,_,_,_,_,_,_,_=>by simp at h1
 | _::_,[],_,_,_,_,h2,_,_,_,_,_,_=>by simp at h2
 | y::ts,g::bQ,0,x,h,h1,h2,d,v,x',h',hd,e=>by
  have e1:ib (y::ts) (g::bQ)=jP (y,g)++ib ts bQ:=rfl;have a:ib ((y::ts).set 0 x') ((g::bQ).set 0 h')=jP (x',h')++ib ts bQ:=rfl;have b:(jP (y,g)).length=3:=rfl;simp at h1 h2;subst h1;subst h2;rw[e1,a,List.set_append_left _ _ O,e,show 3*0+d=d by omega]
 | y::ts,g::bQ,i+1,x,h,h1,h2,d,v,x',h',hd,e=>by
  have e1:ib (y::ts) (g::bQ)=jP (y,g)++ib ts bQ:=rfl;have a:ib ((y::ts).set (i+1) x') ((g::bQ).set (i+1) h')=jP (y,g)++ib (ts.set i x') (bQ.set i h'):=rfl;have b:(jP (y,g)).length=3:=rfl;rw[e1,a,Ai _ _ O,b,show 3*(i+1)+d-3=3*i+d by omega];rw[yP (by simpa using h1) (by simpa using h2) hd e]
def oU (y:Option Lay)(a:Option AR):Hp->Rg->Prop:=λσ F=>match y,a with
 | some Y,some A=>cX σ F Y A (cF A Y)
 | _,_=>True
def qt (x:Option eC)(h:Option Th)(tb:List bW)(bud:Nat):Hp->Rg->Prop:=λσ F=>match x,h with
 | some x,some h=>eH σ F x.c tb bud h.ls
 | _,_=>True
def pK (x:Option eC)(h:Option Th):Hp->Rg->Prop:=λσ F=>match x,h with
 | some x,some h=>il x.h h.bP σ F
 | _,_=>True
def CH (H:Hw)(L:dR):lu->Hp->Rg->Prop
 | .hd=>iH L.p (uu L H.cf)
 | .dB=>cR L.dB 3 (gg H.tb)
 | .sp=>λσ F=>dE σ F L.hs H.sp
 | .fY=>cR L.fY 1 (eX (L.ys.map (·.p)))
 | .cL=>bR L.cL 3 (ib L.ts H.bQ)
 | .live=>j4 L.lm .i64 (.ag 4) H.live
 | .ar k=>oU L.ys[k]? H.bT[k]?
 | .ca t=>qt L.ts[t]? H.bQ[t]? H.tb H.cf.dA
 | .hn t=>pK L.ts[t]? H.bQ[t]?
theorem oU.loc (y:Option Lay)(a:Option AR):dQ (oU y a):=by
 intro σ σ' F G h hz hs;unfold oU at *;split at h
 ·exact cX.loc _ _ _ _ h hz hs
 ·trivial
theorem qt.loc (x:Option eC)(h:Option Th)(tb:List bW)(bud:Nat):dQ (qt x h tb bud):=by
 intro σ σ' F G h hz hs;unfold qt at *;split at h
 ·exact eH.loc _ _ _ _ h hz hs
 ·trivial
theorem pK.loc (x:Option eC)(h:Option Th):dQ (pK x h):=by
 intro σ σ' F G h hz hs;unfold pK at *;split at h
 ·exact il.loc _ _ _ _ _ _ h hz hs
 ·trivial
theorem CH.loc {H:Hw}{L:dR}:∀i,dQ (CH H L i)
 | .hd=>iH.loc _ _
 | .dB=>cR.loc _ _ _
 | .sp=>dE.loc
 | .fY=>cR.loc _ _ _
 | .cL=>bR.loc _ _ _
 | .live=>j4.loc _ _ _ _
 | .ar k=>oU.loc _ _
 | .ca t=>qt.loc _ _ _ _
 | .hn t=>pK.loc _ _
structure HS (L:dR) (H:Hw):Prop where
 ys:L.ys.length=H.bT.length
 hs:∀Y∈L.ys,Y.hs=L.hs
 ts:L.ts.length=H.bQ.length
 a1:1<=H.bT.length
 a2:H.bT.length<=4
 t1:1<=H.bQ.length
 t2:H.bQ.length<=4
 tb:∀A∈H.bT,A.tb=H.tb
structure HH (σ:Hp) (F:Rg) (L:dR) (H:Hw):Prop where
 s:HS L H
 sep:Sep (CH H L) σ F
 g:Gl σ
 gd:Gd σ
 o:iY F
 o2:¬F 1
variable {σ:Hp}{F:Rg}{L:dR}{H:Hw}{t k:Nat}
theorem HH.bK (h:HH σ F L H){σ':Hp}(e:bO σ σ'):HH σ' F L H:=⟨h.s,(Sep.loc CH.loc).bK h.sep e,h.g.bK e,h.gd.bK e,h.o,h.o2⟩
theorem HH.bU (h:HH σ F L H){σ':Hp}{T:Rg}(e:Ext T σ σ')(hT:∀b,b<σ.size->F b->¬T b)(hg:iY T)(hg2:¬T 1):HH σ' F L H:=⟨h.s,(Sep.loc CH.loc).bU h.sep e hT,h.g.bU e hg,h.gd.bU e hg2,h.o,h.o2⟩
theorem Dk {σ:Hp}(g:Gd σ):1<σ.size:=g.lt
theorem HH.mono (h:HH σ F L H){G:Rg}(hs:∀b,b<σ.size->F b->G b)(o:iY G)(o2:¬G 1):HH σ G L H:=⟨h.s,(Sep.loc CH.loc).mono h.sep hs,h.g,h.gd,o,o2⟩
theorem HH.oG (h:HH σ F L H):iY (Grow F σ):=h.o.grow h.g
theorem HH.rm (h:HH σ F L H):¬Grow F σ 1:=λa=>by
 rcases a with a|a
 ·exact h.o2 a
 ·have:=Dk h.gd;omega
theorem HH.sub (h:HH σ F L H){G:Rg}(hs:∀b,b<σ.size->F b->G b)(hg:∀b,G b->F b\/σ.size<=b):HH σ G L H:=
 h.mono hs (h.oG.sub hg) λa=>h.rm (hg _ a)
theorem HH.wB {v v':Hp}{G T:Rg}{L0:dR}{H0:Hw}(h0:HH σ F L0 H0)(h:HH v G L H)(e:Ext T v v')(hT:∀b,T b->σ.size<=b)(hG:∀b,b<v.size->G b->¬T b):HH v' G L H:=
 h.bU e hG (h0.oG.sub λb a=>.inr (hT b a)) λa=>h0.rm (.inr (hT _ a))
theorem HH.grown {σ':Hp}{R:Rg}{L':dR}{H':Hw}(h:HH σ F L H)(h':HH σ' R L' H')(hr:∀b,b<σ'.size->R b->Grow F σ b):HH σ' (Grow F σ) L' H':=h'.mono hr h.oG h.rm
theorem HH.cut (h:HH σ F L H):HH σ (Cut F σ) L H:=h.sub (λb a d=>⟨d,a⟩) λb a=>.inl a.1
theorem HH.mJ (h:HH σ F L H)(i:lu):∃G:Rg,(∀b,G b->F b)/\CH H L i σ G/\(∀j,j≠i->∃D:Rg,(∀b,D b->F b)/\(∀b,D b->¬G b)/\CH H L j σ D) ∧
 ∀(σ':Hp) (H':Hw) (L':dR) (G':Rg),HS L' H'->(∀j,j≠i->CH H' L' j=CH H L j)->Ext G σ σ'->(∀b,G' b->Grow G σ b)->CH H' L' i σ' G' →
  Ext F σ σ'/\HH σ' (λb=>F b/\b<σ.size/\¬G b\/G' b) L' H':=by
 obtain⟨G,p,w,hd,d⟩:=h.sep.kK CH.loc i;refine⟨G,p,w,hd,λσ' H' L' G' y u e s x=>?_⟩;have r:=e.sub p;have m:∀b,(F b/\b<σ.size/\¬G b\/G' b)->Grow F σ b:=λb a=>by
  rcases a with a|a
  ·exact .inl a.1
  ·exact(s b a).imp (p b) id
 refine⟨r,y,d σ' (CH H' L') G' u e s x (CH.loc _),h.g.bU r h.o,h.gd.bU r h.o2,λb a=>(h.o.grow h.g) b (m b a),λa=>?_⟩;rcases m _ a with h1|h1
 ·exact h.o2 h1
 ·have:=Dk h.gd;omega
theorem _root_.Go.Vc.Sep.uj {L:Type}{C:L->Hp->Rg->Prop}{σ:Hp}{F:Rg}(hC:∀i,dQ (C i))(h:Sep C σ F)(i j:L)(hij:i≠j)(N:Rg)(hN:∀b,b<σ.size->F b->¬N b):∃G D:Rg,(∀b,G b->F b)/\(∀b,D b->F b)/\(∀b,G b->¬D b)/\C i σ G/\C j σ D/\(∀m,m≠i->m≠j->∃E:Rg,(∀b,E b->F b)/\(∀b,E b->¬(G b\/D b))/\C m σ E) ∧
 ∀(σ':Hp) (C':L->Hp->Rg->Prop) (G' D':Rg),(∀k,k≠i->k≠j->C' k=C k)->Ext (λb=>G b\/D b) σ σ'->(∀b,G' b->(G b\/D b)\/N b)->(∀b,D' b->(G b\/D b)\/N b)->(∀b,G' b->¬D' b)->C' i σ' G'->C' j σ' D'->(∀k,dQ (C' k)) →
 Sep C' σ' λb=>F b/\b<σ.size/\¬(G b\/D b)\/G' b\/D' b:=by
 obtain⟨ρ,h⟩:=h
 let G:Rg:=λb=>F b/\ρ b=i
 let D:Rg:=λb=>F b/\ρ b=j
 refine⟨G,D,λb a=>a.1,λb a=>a.1,λb x w=>hij (x.2.symm.trans w.2),h i,h j,λm x w=>⟨λb=>F b/\ρ b=m,λb a=>a.1,λb a d=>d.elim (λu=>x (a.2.symm.trans u.2)) λu=>w (a.2.symm.trans u.2),h m⟩,λσ' C' G' D' J e z H hd A B y=>?_⟩
 open Classical in
 refine⟨λb=>if G' b then i else if D' b then j else ρ b,λk=>?_⟩
 by_cases hki:k=i
 ·subst hki;exact(y _).mono A λb _ a=>⟨.inr (.inl a),zB a⟩
 by_cases hkj:k=j
 ·subst hkj;exact(y _).mono B λb _ a=>⟨.inr (.inr a),by show(if G' b then i else if D' b then k else ρ b)=k;rw[zA λd=>hd b d a,zB a]⟩
 ·rw[J k hki hkj];refine hC k _ _ _ _ (h k) e.1 λb a g=>?_;have s:¬(G b\/D b):=by
   rintro(d|d)
   ·exact hki (g.2.symm.trans d.2)
   ·exact hkj (g.2.symm.trans d.2)
  have r:¬G' b:=λd=>(z b d).elim s (hN b a g.1);have p:¬D' b:=λd=>(H b d).elim s (hN b a g.1);exact⟨⟨.inl ⟨g.1,a,s⟩,by show(if G' b then i else if D' b then j else ρ b)=k;rw[zA r,zA p];exact g.2⟩,e.2 b a s⟩
theorem HH.p8 (h:HH σ F L H)(i j:lu)(hij:i≠j)(N:Rg)(hN:∀b,b<σ.size->F b->¬N b)(oN:iY N)(oN2:¬N 1):∃G D:Rg,(∀b,G b->F b)/\(∀b,D b->F b)/\(∀b,G b->¬D b)/\CH H L i σ G/\CH H L j σ D/\(∀m,m≠i->m≠j->∃E:Rg,(∀b,E b->F b)/\(∀b,E b->¬(G b\/D b))/\CH H L m σ E) ∧
 ∀(σ':Hp) (H':Hw) (L':dR) (G' D':Rg),HS L' H'->(∀m,m≠i->m≠j->CH H' L' m=CH H L m)->Ext (λb=>G b\/D b) σ σ'->(∀b,G' b->(G b\/D b)\/N b)->(∀b,D' b->(G b\/D b)\/N b)->(∀b,G' b->¬D' b)->CH H' L' i σ' G'->CH H' L' j σ' D' →
  Ext F σ σ'/\HH σ' (λb=>F b/\b<σ.size/\¬(G b\/D b)\/G' b\/D' b) L' H':=by
 obtain⟨G,D,s,u,hd,B,K,p,r⟩:=h.sep.uj CH.loc i j hij N hN;refine⟨G,D,s,u,hd,B,K,p,λσ' H' L' G' D' C M e z A x P J=>?_⟩;have y:Ext F σ σ':=e.sub λb a=>a.elim (s b) (u b);have d:∀b,(F b/\b<σ.size/\¬(G b\/D b)\/G' b\/D' b)->F b\/N b:=λb a=>by
  rcases a with a|a|a
  ·exact .inl a.1
  ·exact(z b a).imp (λw=>w.elim (s b) (u b)) id
  ·exact(A b a).imp (λw=>w.elim (s b) (u b)) id
 refine⟨y,C,r σ' (CH H' L') G' D' M e z A x P J CH.loc,h.g.bU y h.o,h.gd.bU y h.o2,λb a=>(d b a).elim (h.o b) (oN b),λa=>?_⟩;exact(d _ a).elim h.o2 oN2
theorem HH.mV (h:HH σ F L H):iY (λb=>σ.size<=b)/\¬(σ.size<=1):=⟨h.oG.sub λb a=>.inr a,λa=>h.rm (.inr a)⟩
theorem HH.pN (h:HH σ F L H)(i j:lu)(hij:i≠j):∃G D:Rg,(∀b,G b->F b)/\(∀b,D b->F b)/\(∀b,G b->¬D b)/\CH H L i σ G/\CH H L j σ D/\(∀m,m≠i->m≠j->∃E:Rg,(∀b,E b->F b)/\(∀b,E b->¬(G b\/D b))/\CH H L m σ E) ∧
 ∀(σ':Hp) (H':Hw) (L':dR) (G' D':Rg),HS L' H'->(∀m,m≠i->m≠j->CH H' L' m=CH H L m)->Ext (λb=>G b\/D b) σ σ'->(∀b,G' b->(G b\/D b)\/σ.size<=b)->(∀b,D' b->(G b\/D b)\/σ.size<=b)->(∀b,G' b->¬D' b)->CH H' L' i σ' G'->CH H' L' j σ' D' →
  Ext F σ σ'/\HH σ' (λb=>F b/\b<σ.size/\¬(G b\/D b)\/G' b\/D' b) L' H':=
 h.p8 i j hij _ (λb a _=>O) h.mV.1 h.mV.2
theorem HH.hd (h:HH σ F L H):bX σ L.p (uu L H.cf):=by obtain⟨G,b,a⟩:=h.sep.get .hd;exact a.2
theorem HH.jQ (h:HH σ F L H):cR L.dB 3 (gg H.tb) σ F:=by
 obtain⟨G,d,a⟩:=h.sep.get .dB;exact aH.mono a λb _ a=>d b a
theorem HH.oE (h:HH σ F L H):L.dB.len=H.tb.length:=by
 have:=h.jQ.1;rw[Kd]at this;omega
theorem HH.nN (h:HH σ F L H):cR L.fY 1 (eX (L.ys.map (·.p))) σ F:=by
 obtain⟨G,d,a⟩:=h.sep.get .fY;exact aH.mono a λb _ a=>d b a
theorem HH.jY (h:HH σ F L H):L.fY.len=H.bT.length:=by
 have:=h.nN.1;have:=h.s.ys;simp[eX]at *;omega
theorem HH.km (h:HH σ F L H):cR L.cL 3 (ib L.ts H.bQ) σ F:=by
 obtain⟨G,d,a⟩:=h.sep.get .cL;exact aH.mono (bR.fX a) λb _ a=>d b a
theorem HH.jy (h:HH σ F L H):L.cL.len=H.bQ.length:=by
 have:=h.km.1;rw[HU h.s.ts]at this;omega
theorem HH.kC (h:HH σ F L H):dK σ L.lm .i64 (.ag 4) H.live:=by obtain⟨G,b,a⟩:=h.sep.get .live;exact a.2
theorem HH.Af (h:HH σ F L H):dE σ F L.hs H.sp:=by
 obtain⟨G,d,a⟩:=h.sep.get .sp;exact dQ.mono dE.loc a λb _ a=>d b a
theorem HH.ar (h:HH σ F L H){A:AR}(hk:H.bT[k]?=some A):∃Y,L.ys[k]?=some Y/\Y.hs=L.hs/\cX σ F Y A (cF A Y):=by
 have e:=(cQ.1 hk).1;have d:L.ys[k]?=some (L.ys[k]'(by rw[h.s.ys];exact e)):=cM _;obtain⟨G,g,a⟩:=h.sep.get (.ar k);simp only[CH,hk,d,oU]at a;exact⟨_,d,h.s.hs _ (zE d),a.mono λb _ a=>g b a⟩
theorem HH.rA (h:HH σ F L H){Y:Lay}(hy:L.ys[k]?=some Y){K:Option Addr->Prop}(hK:K (some ⟨Y.p,0,none⟩)):Ix L.fY.a L.fY.len (k:Int) 1 λa=>fZ a σ K:=
 D5 h.nN (by simp[hy]) hK
theorem HH.th (h:HH σ F L H)(ht:t<H.bQ.length):∃x g,L.ts[t]?=some x/\H.bQ[t]?=some g:=⟨L.ts[t]'(by rw[h.s.ts];exact ht),H.bQ[t],cM _,cM _⟩
theorem Ui {s:Sl}{ts:List eC}{bQ:List Th}(h:cR s 3 (ib ts bQ) σ F){x:eC}{g:Th}(hx:ts[t]?=some x)(hg:bQ[t]?=some g){d:Nat}(hd:d<3){v:Value}(hv:(jP (x,g))[d]?=some v):∃b o,s.a=some ⟨b,o,none⟩/\cell σ ⟨b,o+(3*t+d),none⟩=some v:=
 h.cell ((BA hx hg hd).trans hv)
theorem DA {s:Sl}{ts:List eC}{bQ:List Th}(hs:cR s 3 (ib ts bQ) σ F)(hl:ts.length=bQ.length){x:eC}{g:Th}(hx:ts[t]?=some x)(hg:bQ[t]?=some g){d:Nat}(hd:d<3){v:Value}(hv:(jP (x,g))[d]?=some v){K:Addr->Prop}
 (hK:∀b o,s.a=some ⟨b,o,none⟩->cell σ (Addr.add ⟨b,o+3*t,none⟩ d)=some v->K ⟨b,o+3*t,none⟩):Ix s.a s.len (t:Int) 3 K:=by
 have m:=(cQ.1 hg).1;have e:=hs.1;rw[HU hl]at e;obtain⟨b,o,i,j⟩:=Ui hs hx hg hd hv;rw[i];refine ix O O ?_;rw[add_lit,show o+(t:Int).toNat*3=o+3*t by omega];exact hK b o i (by rw[add_lit,show o+3*t+d=o+(3*t+d) by omega];exact j)
theorem HH.JF (h:HH σ F L H){x:eC}{g:Th}(hx:L.ts[t]?=some x)(hg:H.bQ[t]?=some g){d:Nat}(hd:d<3){v:Value}(hv:(jP (x,g))[d]?=some v){K:Addr->Prop}
 (hK:∀b o,cell σ (Addr.add ⟨b,o+3*t,none⟩ d)=some v->K ⟨b,o+3*t,none⟩):Ix L.cL.a L.cL.len (t:Int) 3 K:=
 DA h.km h.s.ts hx hg hd hv λb o _ e=>hK b o e
theorem HH.tS (h:HH σ F L H){x:eC}{g:Th}(hx:L.ts[t]?=some x)(hg:H.bQ[t]?=some g){K:Sl->Prop}(hK:K x.h):Ix L.cL.a L.cL.len (t:Int) 3 λa=>jk (a.add 1) σ K:=
 h.JF hx hg (d:=1) O rfl λb o e=>oA e hK
theorem HH.tR (h:HH σ F L H){x:eC}{g:Th}(hx:L.ts[t]?=some x)(hg:H.bQ[t]?=some g){K:Value->Prop}(hK:K (nv g.ph)):Ix L.cL.a L.cL.len (t:Int) 3 λa=>wo (a.add 2) σ K:=
 h.JF hx hg (d:=2) O rfl λb o e=>⟨_,e,hK⟩
theorem HS.eA (h:HS L H){bQ:List Th}{ts:List eC}(e:ts.length=bQ.length)(e2:bQ.length=H.bQ.length):HS {L with ts:=ts} {H with bQ:=bQ}:=⟨h.ys,h.hs,e,h.a1,h.a2,by rw[e2];exact h.t1,by rw[e2];exact h.t2,h.tb⟩
theorem HS.cB (h:HS L H){A:AR}{sp:Sp}(e:A.tb=H.tb):HS L {H.cB k A with sp:=sp}:=⟨by simp[Hw.cB,h.ys],h.hs,h.ts,by simp[Hw.cB,h.a1],by simp[Hw.cB,h.a2],h.t1,h.t2,λB a=>by
 rcases xj a with h1|h1
 ·exact h.tb B h1
 ·subst h1;exact e⟩
theorem I4 {A:AR}:∀j,j≠lu.ar k->CH (H.cB k A) L j=CH H L j:=by
 intro j hj;cases j<;>try rfl
 rename_i m;have a:m≠k:=λe=>hj (by rw[e]);simp only[CH,Hw.cB,zj (Ne.symm a)]
theorem IE {sp:Sp}:∀j,j≠lu.sp->CH {H with sp:=sp} L j=CH H L j:=by
 intro j hj;cases j<;>first|rfl|exact absurd rfl hj
theorem WnN {l:List (Int×Bk)}:∀j,j≠lu.live->CH {H with live:=l} L j=CH H L j:=by
 intro j hj;cases j<;>first|rfl|exact absurd rfl hj
theorem HH.wD (h:HH σ F L H){A:AR}(hk:H.bT[k]?=some A):∃(Y:Lay) (G:Rg),L.ys[k]?=some Y/\Y.hs=L.hs/\(∀b,G b->F b)/\cX σ G Y A (cF A Y)/\∀(σ':Hp) (A':AR) (G':Rg),A'.tb=A.tb->Ext G σ σ'->(∀b,G' b->Grow G σ b)->cX σ' G' Y A' (cF A' Y) →
 Ext F σ σ'/\HH σ' (λb=>F b/\b<σ.size/\¬G b\/G' b) L (H.cB k A'):=by
 have i:=(cQ.1 hk).1;have a:L.ys[k]?=some (L.ys[k]'(by rw[h.s.ys];exact i)):=cM _;generalize (L.ys[k]'(by rw[h.s.ys];exact i))=Y at a;obtain⟨G,r,j,_,d⟩:=h.mJ (.ar k);simp only[CH,hk,a,oU]at j;refine⟨Y,G,a,h.s.hs _ (zE a),r,j,λσ' A' G' g e m p=>?_⟩;refine d σ' (H.cB k A') L G' (h.s.cB (sp:=H.sp) (g.trans (h.s.tb A (zE hk)))) I4 e m ?_;simp only[CH,Hw.cB,a,zM i,oU];exact p
theorem HH.lJ (h:HH σ F L H){A:AR}(hk:H.bT[k]?=some A):∃(Y:Lay) (G D:Rg),L.ys[k]?=some Y/\Y.hs=L.hs/\W2 σ G D Y A (cF A Y) H.sp/\∀(σ':Hp) (A':AR) (sp':Sp) (G' D':Rg),A'.tb=A.tb->Ext (gH G D) σ σ'->Fits σ G D G' D'->W2 σ' G' D' Y A' (cF A' Y) sp' →
 Ext F σ σ'/\HH σ' (Grow F σ) L {H.cB k A' with sp:=sp'}:=by
 have y:=(cQ.1 hk).1;have i:L.ys[k]?=some (L.ys[k]'(by rw[h.s.ys];exact y)):=cM _;generalize (L.ys[k]'(by rw[h.s.ys];exact y))=Y at i;obtain⟨G,D,C,J,hd,M,E,_,w⟩:=h.pN (.ar k) .sp (by intro e;cases e);simp only[CH,hk,i,oU]at M;have E:dE σ D L.hs H.sp:=E;have j:=h.s.hs _ (zE i);refine⟨Y,G,D,i,j,⟨M,by rw[j];exact E,hd,h.g,h.o.sub C,h.o.sub J⟩,λσ' A' sp' G' D' B e N z=>?_⟩;have r:∀b,G' b->(G b\/D b)\/σ.size<=b:=λb x=>(N.1 b x).imp .inl id;have u:∀b,D' b->(G b\/D b)\/σ.size<=b:=λb x=>.inl (.inr (N.2 b x));have R:∀m,m≠lu.ar k->m≠lu.sp->CH {H.cB k A' with sp:=sp'} L m=CH H L m:=λm K P=>
  (I4 (H:={H with sp:=sp'}) (L:=L) (A:=A') m K).trans (IE m P)
 have U:CH {H.cB k A' with sp:=sp'} L (.ar k) σ' G':=by
  simp only[CH,Hw.cB,i,zM y,oU];exact z.a
 have Q:CH {H.cB k A' with sp:=sp'} L .sp σ' D':=by
  show dE σ' D' L.hs sp';rw[←j];exact z.s
 obtain⟨S,K⟩:=w σ' {H.cB k A' with sp:=sp'} L G' D' (h.s.cB (B.trans (h.s.tb A (zE hk)))) R e r u z.d U Q;refine⟨S,h.grown K λb x p=>?_⟩;rcases p with p|p|p
 ·exact .inl p.1
 ·exact(r b p).imp (λi=>i.elim (C b) (J b)) id
 ·exact(u b p).imp (λi=>i.elim (C b) (J b)) id
theorem HH.xH (h:HH σ F L H):∃G:Rg,(∀b,G b->F b)/\dE σ G L.hs H.sp/\iY G/\∀(σ':Hp) (sp':Sp),Ext G σ σ'->dE σ' (Grow G σ) L.hs sp'->Ext F σ σ'/\HH σ' (Grow F σ) L {H with sp:=sp'}:=by
 obtain⟨G,g,p,_,d⟩:=h.mJ .sp;refine⟨G,g,p,h.o.sub g,λσ' sp' e hs=>?_⟩;obtain⟨j,m⟩:=d σ' {H with sp:=sp'} L (Grow G σ) ⟨h.s.ys,h.s.hs,h.s.ts,h.s.a1,h.s.a2,h.s.t1,h.s.t2,h.s.tb⟩ IE e (λb i=>i) hs;exact⟨j,h.grown m λb i a=>by
  rcases a with a|a
  ·exact .inl a.1
  ·exact a.imp (g b) id⟩
theorem HH.rR (h:HH σ F L H):F L.lm/\∀(σ':Hp) (l:List (Int×Bk)),QD σ σ' L.lm->dK σ' L.lm .i64 (.ag 4) l->Ext F σ σ'/\HH σ' F L {H with live:=l}:=by
 obtain⟨G,i,e,_,d⟩:=h.mJ .live;have e:j4 L.lm .i64 (.ag 4) H.live σ G:=e;refine⟨i _ e.1,λσ' l r j=>?_⟩;obtain⟨m,p⟩:=d σ' {H with live:=l} L G ⟨h.s.ys,h.s.hs,h.s.ts,h.s.a1,h.s.a2,h.s.t1,h.s.t2,h.s.tb⟩ WnN (r.ext.sub λb g=>by rw[g];exact e.1) (λb g=>.inl g) ⟨e.1,j⟩;exact⟨m,p.mono (λb _ a=>by
  rcases a with a|a
  ·exact a.1
  ·exact i b a) h.o h.o2⟩
theorem HH.pJ (h:HH σ F L H){x:eC}{g:Th}(hx:L.ts[t]?=some x)(hg:H.bQ[t]?=some g):∃G:Rg,(∀b,G b->F b)/\eH σ G x.c H.tb H.cf.dA g.ls/\∀(σ':Hp) (ls:List Li) (Y':ie) (G':Rg),Y'.p=x.c.p->Ext G σ σ'->(∀b,G' b->Grow G σ b)->eH σ' G' Y' H.tb H.cf.dA ls →
 Ext F σ σ'/\HH σ' (λb=>F b/\b<σ.size/\¬G b\/G' b) {L with ts:=L.ts.set t {x with c:=Y'}} {H with bQ:=H.bQ.set t {g with ls:=ls}}:=by
 have r:=(cQ.1 hx).1;have i:=(cQ.1 hg).1;obtain⟨G,C,z,_,a⟩:=h.mJ (.ca t);simp only[CH,hx,hg,qt]at z;refine⟨G,C,z,λσ' ls Y' G' A e y B=>?_⟩;have w:ib (L.ts.set t {x with c:=Y'}) (H.bQ.set t {g with ls:=ls})=ib L.ts H.bQ:=by
  have E:(ib L.ts H.bQ).set (3*t+0) (.pointer (some ⟨x.c.p,0,none⟩))=ib L.ts H.bQ:=Ql (BA hx hg O);rw[←E];exact(yP hx hg (d:=0) O (by simp[jP,A])).symm
 refine a σ' {H with bQ:=H.bQ.set t {g with ls:=ls}} {L with ts:=L.ts.set t {x with c:=Y'}} G' (h.s.eA (by simp[h.s.ts]) aA) (λj D=>?_) e y ?_
 ·cases j<;>try rfl
  ·simp only[CH,w]
  ·rename_i m;have u:m≠t:=λe=>D (by rw[e]);simp only[CH,zj (Ne.symm u)]
  ·rename_i m;by_cases u:m=t
   ·subst u;simp only[CH,zM r,zM i,hx,hg];rfl
   ·simp only[CH,zj (Ne.symm u)]
 ·simp only[CH,zM r,zM i,qt];exact B
theorem HH.sE (h:HH σ F L H){x:eC}{g:Th}(hx:L.ts[t]?=some x)(hg:H.bQ[t]?=some g)(N:Rg)(hN:∀b,b<σ.size->F b->¬N b)(oN:iY N)(oN2:¬N 1):∃G D:Rg,(∀b,G b->F b)/\(∀b,D b->F b)/\(∀b,G b->¬D b)/\il x.h g.bP σ G/\bR L.cL 3 (ib L.ts H.bQ) σ D/\(∃E:Rg,(∀b,E b->¬G b)/\(∀b,E b->¬D b)/\iH L.p (uu L H.cf) σ E) ∧
 ∀(σ':Hp) (s:Sl) (bs:List Bt) (G' D':Rg),Ext (λb=>G b\/D b) σ σ'->(∀b,G' b->(G b\/D b)\/N b)->(∀b,D' b->(G b\/D b)\/N b)->(∀b,G' b->¬D' b)->il s bs σ' G'->bR L.cL 3 ((ib L.ts H.bQ).set (3*t+1) (.slice s.a s.len s.cap)) σ' D' →
  Ext F σ σ'/\HH σ' (λb=>F b/\b<σ.size/\¬(G b\/D b)\/G' b\/D' b) {L with ts:=L.ts.set t {x with h:=s}} {H with bQ:=H.bQ.set t {g with bP:=bs}}:=by
 have i:=(cQ.1 hx).1;have u:=(cQ.1 hg).1;obtain⟨G,D,S,V,hd,M,B,j,r⟩:=h.p8 (.hn t) .cL (by intro e;cases e) N hN oN oN2;simp only[CH,hx,hg,pK]at M;have B:bR L.cL 3 (ib L.ts H.bQ) σ D:=B;obtain⟨E,_,P,K⟩:=j .hd (by intro e;cases e) (by intro e;cases e);refine⟨G,D,S,V,hd,M,B,⟨E,λb z hx=>P b z (.inl hx),λb z hx=>P b z (.inr hx),K⟩,λσ' s bs G' D' e A y C Q U=>?_⟩;have J:ib (L.ts.set t {x with h:=s}) (H.bQ.set t {g with bP:=bs})=(ib L.ts H.bQ).set (3*t+1) (.slice s.a s.len s.cap):=(yP hx hg (d:=1) O (by simp[jP])).symm;refine r σ' {H with bQ:=H.bQ.set t {g with bP:=bs}} {L with ts:=L.ts.set t {x with h:=s}} G' D' (h.s.eA (by simp[h.s.ts]) aA) (λm W R=>?_) e A y C ?_ ?_
 ·cases m<;>first|rfl|exact absurd rfl R|skip
  ·rename_i m;by_cases w:m=t
   ·subst w;simp only[CH,zM i,zM u,hx,hg];rfl
   ·simp only[CH,zj (Ne.symm w)]
  ·rename_i m;have w:m≠t:=λe=>W (by rw[e]);simp only[CH,zj (Ne.symm w)]
 ·simp only[CH,zM i,zM u,pK];exact Q
 ·simp only[CH,J];exact U
theorem HH.sB (h:HH σ F L H){x:eC}{g:Th}(hx:L.ts[t]?=some x)(hg:H.bQ[t]?=some g)(p:Option Ph){K:aP}(hK:∀σ',Ext F σ σ'->HH σ' F L {H with bQ:=H.bQ.set t {g with ph:=p}}->K σ') :
 Ix L.cL.a L.cL.len (t:Int) 3 λa=>And (jO (nv p)) (dL (a.add 2) (nv p) σ K):=by
 have N:=(cQ.1 hx).1;have u:=(cQ.1 hg).1;have A:=h.jy;obtain⟨G,C,w,_,r⟩:=h.mJ .cL;have w:bR L.cL 3 (ib L.ts H.bQ) σ G:=w;have B:=HU h.s.ts;obtain⟨b,y⟩:∃b,L.cL.a=some ⟨b,0,none⟩:=by
  rcases w.2 with⟨h0,_⟩|⟨b,_,_,ha,_⟩
  ·omega
  ·exact⟨b,ha⟩
 rw[y];refine ix O O ⟨wA p,?_⟩;refine w.st (j:=3*t+2) O (λP i=>by rw[y]at i;cases i;rw[add_lit,add_lit];congr 1;omega) λσ' e D=>?_;have z:ib L.ts (H.bQ.set t {g with ph:=p})=(ib L.ts H.bQ).set (3*t+2) (nv p):=by
  have:=yP hx hg (d:=2) (v:=nv p) (x':=x) (h':={g with ph:=p}) O (by simp[jP]);rw[this,Ql hx]
 obtain⟨J,M⟩:=r σ' {H with bQ:=H.bQ.set t {g with ph:=p}} L G (h.s.eA (ts:=L.ts) (by simp[h.s.ts]) aA) (λj E=>by
  cases j<;>first|rfl|exact absurd rfl E|skip
  ·rename_i m;by_cases hm:t=m
   ·subst hm;simp only[CH,zM u,hx,hg];rfl
   ·simp only[CH,zj hm]
  ·rename_i m;by_cases hm:t=m
   ·subst hm;simp only[CH,zM u,hx,hg];rfl
   ·simp only[CH,zj hm]) e (λb y=>.inl y) (by simp only[CH,z];exact D)
 exact hK σ' J (M.mono (λb _ hx=>by
  rcases hx with hx|hx
  ·exact hx.1
  ·exact C b hx) h.o h.o2)
end Go.Ar
namespace Go.Ar
open Go Go.Vc Go.Proofs
open Go.Bu (Zf QO Zu iR)
variable {σ:Hp}{F H:Rg}{p hs:Nat}{A:AR}{sp:Sp}{Y:Lay}{T:Nat->Hp->Rg->Prop}
theorem SQ {s:Sl}{tb:List bW}(h:cR s 3 (gg tb) σ F)(hl:tb.length<=40){R:Sl->Hp->Prop}(hR:∀s' σ',bO σ σ'->cR s' 3 (gg tb) σ' (λb=>σ.size<=b)->R s' σ'):Wc.c s σ R:=by
 refine Wc.o ?_;unfold Wc.v;have a:=h.1;rw[Kd]at a;exact G6 h aB rfl IU aB O λs' σ' _ e d=>hR s' σ' e d.fX
end Go.Ar
namespace Go.Ar
open Go Go.Vc Go.Proofs
variable {σ:Hp}{F:Rg}{L:dR}{H:Hw}{t k:Nat}
theorem KB (h:HH σ F L H){R:aO}(hR:R true σ):WM.c (aW L.p) σ R:=by
 refine WM.o ?_;unfold WM.v;have a:=h.jy;have b:=h.s.t1;refine bY.intro (cK rfl (aG (h.hd.rS rfl ?_)));rw[zV aC];exact hR
theorem Ln (h:HH σ F L H)(x:Int){R:aO}(hR:R (decide (0<=x/\x<(H.bQ.length:Int))) σ):YW.c (aW L.p) x σ R:=by
 refine YW.o ?_;unfold YW.v;have a:=h.jy;refine bY.intro (cI (λb=>aG (h.hd.rS rfl ?_)) λb=>?_)
 ·have:decide (x<((L.cL.len:Nat):Int))=decide (0<=x/\x<(H.bQ.length:Int)):=by rw[decide_eq_decide,a];omega
  simp only[this];exact hR
 ·rw[zh O]at hR;exact hR
theorem JY (h:HH σ F L H)(t:Nat){R:aN}(hR:R ((H.own t:Nat):Int) σ):ZI.c (aW L.p) (t:Int) σ R:=by
 refine ZI.o ?_;unfold ZI.v;have a:=h.jY;have b:=h.s.a1;refine aG (h.hd.rS rfl (nz aC ?_));have:((t:Int).tmod ((L.fY.len:Nat):Int))=((H.own t:Nat):Int):=by rw[Q8 O,a];unfold Hw.own;omega
 simp only[this];exact hR
theorem CS (h:HH σ F L H)(x:Int)(hx9:x<=9223372036854775807){R:aN}(hR:∀σ',bO σ σ'->R (YK H.bT x) σ'):Yr.c (aW L.p) x σ R:=by
 refine Yr.o ?_;unfold Yr.v;refine nw (cs:=[.int .i64 x]) λv hz e Q=>Q.xv rfl ?_;have P:=h.bK e;by_cases hx:x<0
 ·have:=hR v e;unfold YK at this;rw[zB hx]at this;exact lV hx this
 refine fH hx (aG (P.hd.rS rfl ?_));have hl:=h.jY;have X:=h.s.a2;refine Wk.o ?_;unfold Wk.v;refine ZU (a:=bN) (λ(z:Int) w=>∃i:Nat,z=(i:Int)/\i<=H.bT.length/\bO σ w/\HH w F L H/\bX w σ.size [.int .i64 x]/\∀j A,j<i->H.bT[j]?=some A->UP A (x/256)=false) (λz _=>H.bT.length-z.toNat) ⟨0,rfl,O,e,P,Q,λj A g=>O⟩ ?_;rintro z w ⟨i,rfl,Z,K,C,r,b⟩;refine cI (λD=>?_) λN=>?_
 ·simp only at D;have E:i<H.bT.length:=by omega
  have d:H.bT[i]?=some H.bT[i]:=cM E;generalize H.bT[i]=A at d;obtain⟨Y,U,V,M⟩:=C.ar d;refine C.rA U (HR (all := #[.pointer (some ⟨Y.p,0,none⟩),.pointer (some ⟨σ.size,0,none⟩)]) (by kernel_rfl) aA ?_);refine Zg.o ?_;unfold Zg.v;refine r.xv rfl (nz aB (ar (by rw[YN O];omega) (by rw[YN O];omega) ?_));rw[YN O];refine Φ M (x/256) (cU (λS=>?_) λW=>?_)
  ·have:YK H.bT x=(i:Int):=by
    unfold YK;rw[zA hx];have:H.bT.findIdx? (λA=>UP A (x/256))=some i:=by
     obtain⟨G,rfl⟩:=cQ.1 d;exact oF.2 ⟨G,S,λj g=>by rw[b j _ g (cM O)];simp⟩
    rw[this]
   have u:=hR w K;rw[this]at u;exact u
  ·exact cA (m:=i+1) O O ⟨⟨i+1,rfl,O,K,C,r,λj B g y=>by
    by_cases e:j=i
    ·subst e;rw[d]at y;cases y;exact W
    ·exact b j B O y⟩,O⟩
 ·have J:i=H.bT.length:=by simp only at N;omega
  subst J;have:YK H.bT x = -1:=by
   unfold YK;rw[zA hx];have:H.bT.findIdx? (λA=>UP A (x/256))=none:=by
    rw[vB];intro A d;obtain⟨j,g⟩:=zN d;exact b j A (cQ.1 g).1 g
   rw[this]
  have u:=hR w K;rw[this]at u;exact u
theorem PB (h:HH σ F L H){R:Int->Int->Int->Int->Int->Hp->Prop}(hR:∀σ',bO σ σ'->R (H.cf.aF:Int) (H.cf.ik:Int) (H.cf.threads:Int) (H.cf.dA:Int) (H.cf.room:Int) σ'):Y6.c (aW L.p) σ R:=by
 refine Y6.o ?_;unfold Y6.v;refine nw (cs:=[.int .i64 0,.int .i64 0,.int .i64 0,.int .i64 0,.int .i64 0]) λv w e i=>KB (h.bK e) (cG rfl ?_);have hd:=(h.bK e).hd;refine aG (hd.gF rfl (hd.gF rfl (hd.gF rfl (hd.gF rfl (hd.gF rfl ?_)))));refine i.s1 aA λu o1 g=>g.s1 aA λs o2 j=>j.s1 aA λv3 o3 b=>b.s1 aA λr o4 d=>d.s1 aA λm o5 a=>?_;refine a.rI rfl (a.rI rfl (a.rI rfl (a.rI rfl (a.rI rfl (hR m ?_)))));exact((((e.only o1 (.inr (zD _))).only o2 (.inr (zD _))).only o3 (.inr (zD _))).only o4 (.inr (zD _))).only o5 (.inr (zD _))
theorem Cc (h:HH σ F L H)(hl:H.tb.length<=40){R:Sl->Hp->Prop}(hR:∀s σ',bO σ σ'->cR s 3 (gg H.tb) σ' (λb=>σ.size<=b)->R s σ'):Yu.c (aW L.p) σ R:=by
 refine Yu.o ?_;unfold Yu.v;exact KB h (cG rfl (aG (h.hd.rS rfl (SQ h.jQ hl hR))))
theorem N4 (h:HH σ F L H){R:Option Addr->Hp->Prop}(hR:R (some ⟨L.hs,0,none⟩) σ):Zl.c (aW L.p) σ R:=by
 refine Zl.o ?_;unfold Zl.v;exact KB h (cG rfl (aG (h.hd.rP rfl hR)))
theorem RC (h:HH σ F L H)(gc:Gc σ)(x v:Int)(hx:x<=9223372036854775807){R:aN}(hR:∀σ',Ext F σ σ'->HH σ' (Grow F σ) L {H with sp:=US H.sp x v}->R (j5 H.sp x) σ'):Zq.c (aW L.p) x v σ R:=by
 refine Zq.o ?_;unfold Zq.v;obtain⟨G,r,i,d,a⟩:=h.xH;refine N4 h (Pw i h.g gc x hx v λσ' e b=>?_);obtain⟨j,m⟩:=a σ' _ e b;exact hR σ' j m
theorem VW (h:HH σ F L H)(ht:t<H.bQ.length){R:Value->Hp->Prop}(hR:R (nv (kA H t)) σ):W4.c (aW L.p) (t:Int) σ R:=by
 refine W4.o ?_;unfold W4.v;obtain⟨x,g,b,a⟩:=h.th ht;refine aG (h.hd.rS rfl (h.tS b a ?_));obtain⟨G,i,d⟩:=h.sep.get (.hn t);simp only[CH,b,a,pK]at d;have e:=d.len;unfold kA at hR;rw[a]at hR;simp only at hR;by_cases h0:g.bP=[]
 ·rw[zB h0]at hR;exact cK (by rw[e,h0];rfl) hR
 ·rw[zA h0]at hR;have:=qz.2 h0;exact cG (by simp only[m0];omega) hR
theorem CW (h:HH σ F L H)(x size cls:Int)(hx9:x<=9223372036854775807){R:Value->Int->Int->Hp->Prop}(hR:∀σ',Ext F σ σ'->HH σ' F L (VG H x size cls)->R .nilIface x 0 σ'):Za.c (aW L.p) x size cls σ R:=by
 refine Za.o ?_;unfold Za.v;refine nw (cs:=[.int .i64 0,.int .i64 0]) λv J e a=>?_;have j:=h.cut.bK e;refine⟨λu=>bO v u,Ext.refl _ _,aG ⟨some L.lm,λu C=>by rw[add_lit,((j.bK C).hd).cell];rfl,?_⟩⟩;refine CS j x hx9 λG g=>⟨g,?_⟩;have y:=j.bK g;obtain⟨D,d⟩:=y.rR;refine⟨L.lm,_,rfl,y.kC,λi o2 m=>?_⟩;obtain⟨E,B⟩:=d i _ o2 m;have s:bX i σ.size [.int .i64 0,.int .i64 0]:=Ws o2 (g.bZ a id) (by have:=D.2;omega);refine s.s1 aA λv3 o3 z=>z.s1 aA λv4 o4 w=>w.rI rfl (w.rI rfl (hR v4 ?_ ?_))
 ·exact(((bO.to (e.trans g)).trans (E.sub λb a=>a.1)).only o3 (.inr (zD _))).only o4 (.inr (zD _))
 ·have r:Ext (· = σ.size) i v4:=o3.ext.trans o4.ext;have A:=h.wB B r (λb a=>O) (λb _ a K=>by have:=a.2;omega);exact A.mono (λb _ a=>a.1) h.o h.o2
theorem yv (h:HH σ F L H)(ht:t<H.bQ.length)(k:Nat){s:Sl}{xs:List Int}{X:Rg}(hs:cR s 1 (Wv xs) σ X)(hc:s.len<=s.cap)(hxs:xs≠[])(hX:∀b,b<σ.size->X b->¬F b)(oX:iY X)(oX2:¬X 1)(hlen:∀g,H.bQ[t]?=some g->g.bP.length<=1000){R:aP}
 (hR:∀σ' ts',Ext F σ σ'->HH σ' (λb=>Grow F σ b\/X b) {L with ts:=ts'} (QR H t k xs)->R σ'):YD.c (aW L.p) (t:Int) (k:Int) s σ R:=by
 refine YD.o ?_;unfold YD.v;obtain⟨x,g,r,P⟩:=h.th ht;have htl:=HU h.s.ts;have hrl:=h.jy;have hlen:=hlen g P;obtain⟨G,D,hG,Z,hd,hB,hr,⟨E,hE1,hE2,hhd⟩,Y⟩:=h.cut.sE r P (λb=>σ.size<=b\/b<σ.size/\X b) (λb m hf hn=>by
  rcases hn with hn|hn
  ·omega
  ·exact hX b m hn.2 hf.1) (λb m=>m.elim (h.mV.1 b) λm=>oX b m.2) (λm=>m.elim h.mV.2 λm=>oX2 m.2)
 obtain⟨V,Dn,A,K,M,hj,S⟩:=hB;have B:∀u,Ext G σ u->bX u L.p (uu L H.cf):=λu z=>((iH.loc _ _).bU hhd z λb _ m r=>hE1 b m r).2;have Q:∀u,Ext G σ u->bR L.cL 3 (ib L.ts H.bQ) u D:=λu z=>aI.bU hr z λb _ m r=>hd b r m;refine⟨λu=>Ext G σ u,Ext.refl _ _,aG ⟨L.cL,λu z=>by rw[add_lit,(B u z).cell];rfl,aG ⟨L.cL,λu z=>by rw[add_lit,(B u z).cell];rfl,?_⟩⟩⟩;refine DA (bR.fX hr) h.s.ts r P (d:=1) O rfl λb o ha _=>⟨x.h,λu z=>?_,?_⟩
 ·obtain⟨b',o',aa,hc'⟩:=Ui (bR.fX (Q u z)) r P (d:=1) O rfl;rw[ha]at aa;cases aa;rw[add_lit,show o+3*t+1=o+(3*t+1) by omega];exact hc'
 refine nw (cs:=[.int .i64 (k:Int),.slice s.a s.len s.cap]) λv hz e m=>⟨bO.to e,?_⟩;have C:=(dO.loc _ _ _).bK ((dO.loc _ _ _).cut A) e;have ab:=(kY.loc _ _).bK ((kY.loc _ _).cut K) e;have hs1:=aH.bK (aH.cut hs) e;have hpl:x.h.len=V.length:=by have:=A.1;rw[KF]at this;omega
 have hpg:V.length=g.bP.length:=K.1;refine C.app (ys:=oS (k,s)) rfl rfl ?_ (λv hv=>Hs (l:=[(k,s)]) v (by simpa[fN]using hv)) ?_ ?_ nA λs' v2 hl2 e2 hr2=>?_
 ·intro j u z;rw[add_lit,zG,m.cell];exact z
 ·simp only;have:(x.h.len+1)*32<=1001*32:=kO O O;omega
 ·simp only;omega
 have hs2:=e2.1;have eG:Ext G σ v2:=(bO.to e).trans (e2.sub λb m=>m.1.1);refine⟨eG,?_⟩;obtain⟨b0,U⟩:∃b,L.cL.a=some ⟨b,0,none⟩:=by
  rcases hr.2 with⟨h0,_⟩|⟨b,_,_,ha,_⟩
  ·omega
  ·exact⟨b,ha⟩
 rw[U];refine ix O O ?_;refine(Q v2 eG).st (j:=3*t+1) O (λb' W=>by rw[U]at W;cases W;rw[add_lit,add_lit];congr 1;omega) λσ' e3 hr3=>?_;have hs3:=e3.1;have e03:Ext (λb=>G b\/D b) σ σ':=(eG.sub λb m=>.inl m).trans (e3.sub λb m=>.inr m);have hr4:=(dO.loc _ _ _).bU ((dO.loc _ _ _).cut hr2) e3 λb _ m r=>by
  rcases m.1 with h1|h1
  ·exact hd b h1.1.1 r
  ·have:=(Z b r).2;omega
 have hB4:=(kY.loc _ _).bU ((kY.loc _ _).bU ab e2 λb _ m r=>r.1.2 m.1) e3 λb _ m r=>hd b (M b m.1) r;have hs4:=aH.bU (aH.bU hs1 e2 λb m r w=>hX b r.2 r.1 (hG b w.1.1).1) e3 λb _ r w=>hX b r.2 r.1 (Z b w).1;have hBt:il s' (g.bP++[(k,xs)]) σ' (λb=>G b/\b<σ.size\/b<σ.size/\X b\/v.size<=b/\b<v2.size):=by
  refine⟨V++[(k,s)],λb=>Dn b/\b<σ.size\/b<σ.size/\X b,?_,⟨by simp[hpg],λi p y J w=>?_⟩,λb m=>?_,hj.snoc K S hs hxs (λb m r w=>hX b m w (hG b (M b r)).1) k,λy w=>?_⟩
  ·rw[U9];have:fN [(k,s)]=oS (k,s):=by simp[fN]
   rw[this];refine(dO.loc _ _ _).mono hr4 λq _ N=>?_;rcases N.1 with h1|h1
   ·exact⟨.inl ⟨h1.1.1,h1.2⟩,λr=>by
     rcases r with r|r
     ·exact h1.1.2 r.1
     ·exact hX q r.1 r.2 (hG q h1.1.1).1⟩
   ·exact⟨.inr (.inr ⟨h1,N.2⟩),λr=>by
     rcases r with r|r<;>omega⟩
  ·rcases ma i V.length with hi|hi
   ·rw[zd hi]at J;rw[zd O]at w;obtain⟨a1,a2,a3⟩:=hB4.2 i p y J w;exact⟨a1,aH.mono a2 λq _ N=>.inl N,a3⟩
   ·rw[zn hi]at J;rw[zn O]at w;have hi0:i-V.length=0:=by
     have:=(cQ.1 J).1;simp at this;omega
    rw[hi0]at J;rw[show i-g.bP.length=0 by omega]at w;simp at J w;subst J;subst w;exact⟨rfl,aH.mono hs4 λq _ N=>.inr ⟨N.2,N.1⟩,hc⟩
  ·rcases m with m|m
   ·exact .inl ⟨M b m.1,m.2⟩
   ·exact .inr (.inl m)
  ·rcases zR.1 w with h1|h1
   ·exact S y h1
   ·rw[zW]at h1;subst h1;exact hxs
 obtain⟨eF,h4⟩:=Y σ' s' (g.bP++[(k,xs)]) (λb=>G b/\b<σ.size\/b<σ.size/\X b\/v.size<=b/\b<v2.size) D e03 (λb m=>by
  rcases m with m|m|m
  ·exact .inl (.inl m.1)
  ·exact .inr (.inr m)
  ·exact .inr (.inl O)) (λb m=>.inl (.inr m)) (λb m r=>by
  have:=(Z b r).2;rcases m with m|m|m
  ·exact hd b m.1 r
  ·exact hX b m.1 m.2 (Z b r).1
  ·omega) hBt hr3
 refine hR σ' (L.ts.set t {x with h:=s'}) (eF.sub λb m=>m.1) ?_;have e5:QR H t k xs = {H with bQ:=H.bQ.set t {g with bP:=g.bP++[(k,xs)]}}:=by
  unfold QR Hw.eA
  congr 1
  exact K0 P
 rw[e5];refine h4.mono (λb _ m=>?_) (λb (m:Grow F σ b\/X b)=>m.elim (h.oG b) (oX b)) λ(m:Grow F σ _\/X _)=>m.elim h.rm oX2;rcases m with m | (m|m|m)|m
 ·exact .inl (.inl m.1.1)
 ·exact .inl (.inl (hG b m.1).1)
 ·exact .inr m.2
 ·exact .inl (.inr O)
 ·exact .inl (.inl (Z b m).1)
end Go.Ar
namespace Go.Ar
open Go Go.Vc Go.Proofs
variable {σ u u':Hp}{F B P:Rg}{L:dR}{H H':Hw}{t k n:Nat}{A:AR}{Y:Lay}{x:eC}{g:Th}{c:bW}{l:Li}{cs:List Value}
structure HK (F:Rg) (σ:Hp) (B:Rg) (u:Hp) (P:Rg) (L:dR) (H:Hw):Prop where
 h:HH u P L H
 e:Ext F σ u
 p:∀b,P b->(F b/\b<σ.size\/σ.size<=b)/\¬B b/\b<u.size
 b:∀b,B b->σ.size<=b/\b<u.size
 o:iY (λb=>σ.size<=b)/\¬σ.size<=1
theorem HK.start (h:HH σ F L H):HK F σ (λ_=>False) σ (Cut F σ) L H:=⟨h.cut,Ext.refl _ _,λb a=>⟨.inl ⟨a.1,a.2⟩,id,a.2⟩,λb a=>a.elim,h.mV⟩
theorem HK.box (K:HK F σ B u P L H)(e:bO u u')(hz:u'.size=u.size+1):HK F σ (λb=>B b\/b=u.size) u' P L H:=
 ⟨K.h.bK e,K.e.trans (bO.to e),λb a=>⟨(K.p b a).1,λd=>d.elim (K.p b a).2.1 λg=>by have:=(K.p b a).2.2;omega,by have:=(K.p b a).2.2;omega⟩,λb a=>by
  have:=K.e.1;rcases a with a|a
  ·have:=K.b b a;omega
  ·omega,K.o⟩
theorem HK.fr (K:HK F σ B u P L H)(e:bO u u'):HK F σ B u' P L H:=
 ⟨K.h.bK e,K.e.trans (bO.to e),λb a=>⟨(K.p b a).1,(K.p b a).2.1,by have:=(K.p b a).2.2;have:=e.1;omega⟩,λb a=>by have:=K.b b a;have:=e.1;omega,K.o⟩
theorem HK.own (K:HK F σ B u P L H)(o:QD u u' n)(hn:B n):HK F σ B u' P L H:=by
 have s:=K.b n hn;have r:=o.1;have e:Ext (· = n) u u':=o.ext;have m:∀b,b<u.size->P b->¬(b=n):=λb _ a i=>(K.p b a).2.1 (i▸hn);have d:iY (λb=>b=n)/\¬(1=n):=⟨K.o.1.sub λb j=>O,λj=>K.o.2 O⟩;exact⟨K.h.bU e m d.1 d.2,K.e.fC e λb (g:b=n)=>.inr O,λb a=>⟨(K.p b a).1,(K.p b a).2.1,by have:=(K.p b a).2.2;omega⟩,λb a=>by have:=K.b b a;omega,K.o⟩
theorem HK.cW (K:HK F σ B u P L H)(e:Ext P u u')(hb:bX u n cs)(hn:B n):bX u' n cs:=e.bZ hb λa=>(K.p n a).2.1 hn
theorem HK.sO (K:HK F σ B u P L H){Q:Rg}{L':dR}(e:Ext P u u')(h:HH u' Q L' H')(hq:∀b,b<u'.size->Q b->P b\/u.size<=b\/(F b/\b<σ.size\/σ.size<=b)/\¬B b):HK F σ B u' (Cut Q u') L' H':=by
 have g:=e.1;have i:=K.e.1;refine⟨h.cut,K.e.fC e λb a=>(K.p b a).1.imp (λh=>h.1) id,λb a=>⟨?_,λd=>?_,a.2⟩,λb a=>by have:=K.b b a;omega,K.o⟩
 ·rcases hq b a.2 a.1 with h1|h1|h1
  ·exact(K.p b h1).1
  ·exact .inr O
  ·exact h1.1
 ·rcases hq b a.2 a.1 with h1|h1|h1
  ·exact(K.p b h1).2.1 d
  ·have:=K.b b d;omega
  ·exact h1.2 d
theorem HK.to (K:HK F σ B u P L H){Q:Rg}{L':dR}(e:Ext P u u')(h:HH u' Q L' H')(hq:∀b,b<u'.size->Q b->P b\/u.size<=b):HK F σ B u' (Cut Q u') L' H':=K.sO e h λb d a=>(hq b d a).imp id .inl
theorem HK.fin (K:HK F σ B u P L H){L0:dR}{H0:Hw}(h0:HH σ F L0 H0):HH u (Grow F σ) L H:=h0.grown K.h λb _ a=>(K.p b a).1.imp (λh=>h.1) id
def Fr (A' A:AR):Prop:=A'.tb=A.tb/\A'.room=A.room/\A'.cE=A.cE
theorem Fr.cF {A' A:AR}(h:Fr A' A)(Y:Lay):Go.Ar.cF A' Y=Go.Ar.cF A Y:=by
 funext k;unfold Go.Ar.cF;rw[h.1,h.2.1,h.2.2]
theorem JS (A:AR)(k m:Int):Fr (YQ A k m) A:=by
 unfold YQ;split<;>exact⟨rfl,rfl,rfl⟩
theorem IH (A:AR)(k:Int)(xs:List Int):Fr (Ze A k xs) A:=⟨(Vw A k xs).1,(Vw A k xs).2.1,(Vw A k xs).2.2.1⟩
theorem En (A:AR)(sp:Sp)(m a no:Nat):Fr (cZ A sp m a no).2.1 A:=⟨(Gq A sp m a no).1,(Gq A sp m a no).2.2.2.1,(Gq A sp m a no).2.2.1⟩
theorem Lm (A:AR)(x:Int):Fr (QG A x) A:=by
 unfold QG;split<;>exact⟨rfl,rfl,rfl⟩
theorem IT (A:AR)(sp:Sp)(k:Int):Fr (cO A sp k).1 A:=by
 unfold cO;split
 ·split
  ·rename_i c ss h1 h2;have h:=En A sp c.aF 1 (k.toNat+1);generalize cZ A sp c.aF 1 (k.toNat+1)=r at h;obtain⟨o,A',a⟩:=r;cases o with
   | none=>exact h
   | some x=>
    simp only;split<;>exact h
  ·exact⟨rfl,rfl,rfl⟩
 ·exact⟨rfl,rfl,rfl⟩
theorem Lt (A:AR)(sp:Sp)(m a:Int):Fr (cD A sp m a).1 A:=by
 unfold cD;split
 ·have h:=En A sp m.toNat a.toNat 41;generalize cZ A sp m.toNat a.toNat 41=r at h;obtain⟨o,A',b⟩:=r;cases o<;>exact h
 ·exact⟨rfl,rfl,rfl⟩
theorem O5 (A:AR)(k:Int):(ZR A k).tb=A.tb:=by unfold ZR;split<;>rfl
theorem ψ (A:AR)(k:Int)(xs:List Int):(Q9 A k xs).tb=A.tb:=by unfold Q9;split<;>rfl
theorem HH.m4 (h:HH σ F L H)(hk:H.bT[k]?=some A)(hy:L.ys[k]?=some Y):∃G:Rg,(∀b,G b->F b)/\cX σ G Y A (cF A Y)/\∀(σ':Hp) (A':AR) (Q:Rg),A'.tb=A.tb->Ext G σ σ'->(∀b,Q b->G b\/σ.size<=b)->cX σ' (λb=>Grow G σ b/\¬Q b) Y A' (cF A' Y) →
 Ext F σ σ'/\HH σ' (λb=>Grow F σ b/\¬Q b) L (H.cB k A'):=by
 obtain⟨Y',G,d,_,j,w,g⟩:=h.wD hk;rw[hy]at d;cases d;refine⟨G,j,w,λσ' A' Q i e s p=>?_⟩;obtain⟨m,r⟩:=g σ' A' _ i e (λb a=>a.1) p;refine⟨m,r.mono (λb _ a=>?_) (h.oG.sub λb a=>a.1) λa=>h.rm a.1⟩;rcases a with a|a
 ·exact⟨.inl a.1,λu=>by
   rcases s b u with h2|h2
   ·exact a.2.2 h2
   ·have:=a.2.1;omega⟩
 ·exact⟨a.1.imp (j b) id,a.2⟩
theorem cX.vX {T:Nat->Hp->Rg->Prop}{G Q:Rg}(h:cX σ G Y A T)(hq:∀b,¬Q b):cX σ (λb=>G b/\¬Q b) Y A T:=h.mono λb _ a=>⟨a,hq b⟩
theorem HH.lR (h:HH σ F L H)(hk:H.bT[k]?=some A)(hy:L.ys[k]?=some Y):∃G:Rg,(∀b,G b->F b)/\cX σ G Y A (cF A Y)/\∀(σ':Hp) (A':AR),A'.tb=A.tb->Ext G σ σ'->cX σ' (Grow G σ) Y A' (cF A' Y) →
 Ext F σ σ'/\HH σ' (Grow F σ) L (H.cB k A'):=by
 obtain⟨G,r,p,a⟩:=h.m4 hk hy;refine⟨G,r,p,λσ' A' g e j=>?_⟩;obtain⟨i,m⟩:=a σ' A' (λ_=>False) g e (λb d=>d.elim) (j.vX λ_=>id);exact⟨i,m.mono (λb _ d=>d.1) h.oG h.rm⟩
theorem GW (h:HH σ F L H)(hk:H.bT[k]?=some A)(hy:L.ys[k]?=some Y)(c:Int){R:Sl->Int->Hp->Prop}
 (hR:∀s σ' (Q:Rg),Ext F σ σ'->(∀b,Q b->F b)->cR s 1 (Wv (YM A c)) σ' Q->s.len<=s.cap->HH σ' (λb=>Grow F σ b/\¬Q b) L (H.cB k (ZR A c))->R s (Z7 A c) σ') :
 WB.c (aW Y.p) c σ R:=by
 obtain⟨G,x,w,d⟩:=h.m4 hk hy;refine GR w c λs σ' e i u g m=>?_;obtain⟨j,r⟩:=d σ' (ZR A c) (lq s) (O5 A c) e (λb a=>.inl (i b a)) (m.mono λb _ a=>⟨.inl a.1,a.2⟩);exact hR s σ' (lq s) j (λb a=>x b (i b a)) u g r
theorem OQ (h:HH σ F L H)(hk:H.bT[k]?=some A)(hy:L.ys[k]?=some Y)(c m:Int){R:Sl->Int->Hp->Prop}
 (hR:∀s σ' (Q:Rg),Ext F σ σ'->(∀b,Q b->σ.size<=b)->bR s 1 (ints (Yv A c m)) σ' Q->HH σ' (λb=>Grow F σ b/\¬Q b) L (H.cB k (YQ A c m))->R s (QJ A c m) σ') :
 WE.c (aW Y.p) c m σ R:=by
 obtain⟨G,x,w,d⟩:=h.m4 hk hy;refine MV w c m λs σ' e u j=>?_;have g:cF (YQ A c m) Y=cF A Y:=(JS A c m).cF Y;obtain⟨i,r⟩:=d σ' (YQ A c m) (λb=>σ.size<=b) (JS A c m).1 e (λb a=>.inr a) (by rw[g];exact j.mono λb _ a=>⟨.inl a.1,by have:=a.2;omega⟩);exact hR s σ' _ i (λb a=>a) u r
theorem Ou (h:HH σ F L H)(hk:H.bT[k]?=some A)(hy:L.ys[k]?=some Y)(c:Int){sl:Sl}{xs:List Int}{X:Rg}(hs:cR sl 1 (Wv xs) σ X)(hi:∀x∈xs,iO x){R:Bool->Int->Hp->Prop}
 (hR:∀σ',Ext F σ σ'->HH σ' (Grow F σ) L (H.cB k (Q9 A c xs))->R (Vi A c xs) (HP A c xs) σ'):WK.c (aW Y.p) c sl σ R:=by
 obtain⟨G,j,i,a⟩:=h.lR hk hy;refine T1 i c hs hi λσ' e d=>?_;obtain⟨b,g⟩:=a σ' _ (ψ A c xs) e d;exact hR σ' b g
theorem RR (h:HH σ F L H)(hk:H.bT[k]?=some A)(hy:L.ys[k]?=some Y)(c:Int){sl:Sl}{xs:List Int}{X:Rg}(hs:cR sl 1 (Wv xs) σ X)(hX:∀b,b<σ.size->X b->¬F b)(hi:∀x∈xs,iO x)(hl:xs.length<=1000000)(hcap:sl.len<=sl.cap){R:aN}
 (hR:∀σ',Ext F σ σ'->HH σ' (Grow F σ) L (H.cB k (Ze A c xs))->R (QW A c xs) σ'):WA.c (aW Y.p) c sl σ R:=by
 obtain⟨G,w,u,a⟩:=h.lR hk hy;refine GG u c hi hl hcap (.inl ⟨X,hs,λb s g i=>hX b s g (w b i)⟩) λσ' e m=>?_;have d:cF (Ze A c xs) Y=cF A Y:=(IH A c xs).cF Y;obtain⟨j,r⟩:=a σ' _ (IH A c xs).1 e (by rw[d];exact m);exact hR σ' j r
theorem Wcl (h:HH σ F L H)(hk:H.bT[k]?=some A)(hy:L.ys[k]?=some Y)(x:Int)(hf:∀r∈A.runs,r.1<=1000000){R:aN}
 (hR:∀σ',Ext F σ σ'->HH σ' (Grow F σ) L (H.cB k (QG A x))->R (KQ A x) σ'):WR.c (aW Y.p) x σ R:=by
 obtain⟨G,m,j,a⟩:=h.lR hk hy;refine TQ j x hf λσ' e g=>?_;have b:cF (QG A x) Y=cF A Y:=(Lm A x).cF Y;obtain⟨d,i⟩:=a σ' _ (Lm A x).1 e (by rw[b];exact g);exact hR σ' d i
theorem PU (h:HH σ F L H)(hk:H.bT[k]?=some A)(hy:L.ys[k]?=some Y)(c:Int){R:aN}
 (hR:∀σ',Ext F σ σ'->HH σ' (Grow F σ) L {H.cB k (cO A H.sp c).1 with sp:=(cO A H.sp c).2}->R (KN A H.sp c) σ'):Yf.c (aW Y.p) c σ R:=by
 obtain⟨Y',G,D,b,_,m,a⟩:=h.lJ hk;rw[hy]at b;cases b;refine Mc m c λσ' G' D' r e i=>?_;have d:cF (cO A H.sp c).1 Y=cF A Y:=(IT A H.sp c).cF Y;obtain⟨g,j⟩:=a σ' _ _ G' D' (IT A H.sp c).1 e r (by rw[d];exact i);exact hR σ' g j
theorem TE (h:HH σ F L H)(hk:H.bT[k]?=some A)(hy:L.ys[k]?=some Y)(m a:Int){R:Int->Int->Hp->Prop}
 (hR:∀σ',Ext F σ σ'->HH σ' (Grow F σ) L {H.cB k (cD A H.sp m a).1 with sp:=(cD A H.sp m a).2}->R ((Z6 A H.sp m a:Nat):Int) (Qz A H.sp m a) σ'):WS.c (aW Y.p) m a σ R:=by
 obtain⟨Y',G,D,d,_,s,b⟩:=h.lJ hk;rw[hy]at d;cases d;refine Ov s m a λσ' G' D' u e j=>?_;have g:cF (cD A H.sp m a).1 Y=cF A Y:=(Lt A H.sp m a).cF Y;obtain⟨i,r⟩:=b σ' _ _ G' D' (Lt A H.sp m a).1 e u (by rw[g];exact j);exact hR σ' i r
def Hw.dY (H:Hw)(t:Nat)(g:Th)(ls:List Li):Hw:={H with bQ:=H.bQ.set t {g with ls:=ls}}
theorem HH.lE (h:HH σ F L H)(hx:L.ts[t]?=some x)(hg:H.bQ[t]?=some g):∃G:Rg,(∀b,G b->F b)/\eH σ G x.c H.tb H.cf.dA g.ls/\∀(σ':Hp) (ls:List Li) (Y':ie) (Q:Rg),Y'.p=x.c.p->Ext G σ σ'->(∀b,Q b->σ.size<=b)->eH σ' (λb=>Grow G σ b/\¬Q b) Y' H.tb H.cf.dA ls →
 Ext F σ σ'/\HH σ' (λb=>Grow F σ b/\¬Q b) {L with ts:=L.ts.set t {x with c:=Y'}} (H.dY t g ls):=by
 obtain⟨G,i,j,d⟩:=h.pJ hx hg;refine⟨G,i,j,λσ' ls Y' Q s e u r=>?_⟩;obtain⟨m,w⟩:=d σ' ls Y' _ s e (λb a=>a.1) r;refine⟨m,w.mono (λb _ a=>?_) (h.oG.sub λb a=>a.1) λa=>h.rm a.1⟩;rcases a with a|a
 ·exact⟨.inl a.1,λy=>by have:=a.2.1;have:=u b y;omega⟩
 ·exact⟨a.1.imp (i b) id,a.2⟩
theorem HH.lI (h:HH σ F L H)(hx:L.ts[t]?=some x)(hg:H.bQ[t]?=some g):∃G:Rg,(∀b,G b->F b)/\eH σ G x.c H.tb H.cf.dA g.ls/\∀(σ':Hp) (ls:List Li) (Y':ie),Y'.p=x.c.p->Ext G σ σ'->eH σ' (Grow G σ) Y' H.tb H.cf.dA ls →
 Ext F σ σ'/\HH σ' (Grow F σ) {L with ts:=L.ts.set t {x with c:=Y'}} (H.dY t g ls):=by
 obtain⟨G,u,i,a⟩:=h.lE hx hg;refine⟨G,u,i,λσ' ls Y' r e m=>?_⟩;obtain⟨j,s⟩:=a σ' ls Y' (λ_=>False) r e (λb d=>d.elim) (m.mono λb _ d=>⟨d,id⟩);exact⟨j,s.mono (λb _ d=>d.1) h.oG h.rm⟩
theorem SI (h:HH σ F L H)(hx:L.ts[t]?=some x)(hg:H.bQ[t]?=some g)(hc:H.tb[k]?=some c)(hl:g.ls[k]?=some l){R:Int->Int->Hp->Prop}
 (hR:∀σ' ts',Ext F σ σ'->HH σ' (Grow F σ) {L with ts:=ts'} (H.dY t g (g.ls.set k (Ka c l).2))->R ((Ka c l).1.getD 0) (if(Ka c l).1.isSome then 0 else 4) σ'):Yd.c (aW x.c.p) (k:Int) σ R:=by
 obtain⟨G,r,m,a⟩:=h.lI hx hg;refine lK m hc hl λσ' Y' e i d=>?_;obtain⟨b,j⟩:=a σ' _ Y' i e d;exact hR σ' _ b j
theorem S1 (h:HH σ F L H)(hx:L.ts[t]?=some x)(hg:H.bQ[t]?=some g)(hc:H.tb[k]?=some c)(hl:g.ls[k]?=some l){R:Int->Int->Hp->Prop}
 (hR:∀σ' ts',Ext F σ σ'->HH σ' (Grow F σ) {L with ts:=ts'} H->R ((qb c l:Nat):Int) 0 σ'):Yn.c (aW x.c.p) (k:Int) σ R:=by
 obtain⟨G,s,m,a⟩:=h.lI hx hg;refine Pb m hc hl λσ' Y' e j i=>?_;obtain⟨d,b⟩:=a σ' _ Y' j e i;have r:H.dY t g g.ls=H:=by
  unfold Hw.dY;rw[Ql hg]
 rw[r]at b;exact hR σ' _ d b
theorem NV (h:HH σ F L H)(hx:L.ts[t]?=some x)(hg:H.bQ[t]?=some g)(hc:H.tb[k]?=some c)(hl:g.ls[k]?=some l){sl:Sl}{xs:List Int}{X:Rg}(hs:cR sl 1 (Wv xs) σ X)(hX:∀q,X q->¬F q)(hfit:l.os.length+xs.length<=256){R:aN}
 (hR:∀σ' ts',Ext F σ σ'->HH σ' (Grow F σ) {L with ts:=ts'} (H.dY t g (g.ls.set k (eL xs.reverse l)))->R 0 σ'):Ym.c (aW x.c.p) (k:Int) sl σ R:=by
 obtain⟨G,b,r,a⟩:=h.lI hx hg;refine Sm r hc hl hs (λq s hg=>hX q s (b q hg)) hfit λσ' Y' e j i=>?_;obtain⟨d,m⟩:=a σ' _ Y' j e i;exact hR σ' _ d m
theorem MQ (h:HH σ F L H)(hx:L.ts[t]?=some x)(hg:H.bQ[t]?=some g)(hc:H.tb[k]?=some c)(hl:g.ls[k]?=some l)(y:Int){R:Sl->Int->Hp->Prop}
 (hR:∀σ' ts' s e (Q:Rg),Ext F σ σ'->(∀q,Q q->σ.size<=q)->bR s 1 (Wv (dP c y l).1) σ' Q->HH σ' (λb=>Grow F σ b/\¬Q b) {L with ts:=ts'} (H.dY t g (g.ls.set k (dP c y l).2))->R s e σ'):YR.c (aW x.c.p) (k:Int) y σ R:=by
 obtain⟨G,A,w,a⟩:=h.lE hx hg;refine L8 w hc hl y λσ' Y' s r Q e m _ d z j=>?_;obtain⟨i,u⟩:=a σ' _ Y' Q m e d j;exact hR σ' _ s r Q i d z u
theorem Wk0 (h:HH σ F L H)(hx:L.ts[t]?=some x)(hg:H.bQ[t]?=some g){R:aO}(hR:∀σ',bO σ σ'->R (decide (H.cf.dA<Qt H.tb g.ls)) σ'):Yj.c (aW x.c.p) σ R:=by
 obtain⟨G,d,b,a⟩:=h.lI hx hg;exact To b hR
theorem Μ (hso:H6)(h:HH σ F L H)(hx:L.ts[t]?=some x)(hg:H.bQ[t]?=some g){R:Sl->Hp->Prop}
 (hR:∀σ' s (Q:Rg),Ext F σ σ'->(∀q,Q q->σ.size<=q)->il s (Kb ZX H.tb g.ls) σ' Q->HH σ' (λb=>Grow F σ b/\¬Q b) L (H.dY t g (Q6 ZX H.tb g.ls))->R s σ'):XP.c (aW x.c.p) σ R:=by
 obtain⟨G,w,r,a⟩:=h.lE hx hg;refine θ hso r λσ' s Q e i m u=>?_;obtain⟨j,d⟩:=a σ' _ x.c Q rfl e i m;rw[show L.ts.set t {x with c:=x.c}=L.ts from Ql hx]at d;exact hR σ' s Q j i u d
theorem O6 (hso:H6)(h:HH σ F L H)(hx:L.ts[t]?=some x)(hg:H.bQ[t]?=some g){R:Sl->Hp->Prop}
 (hR:∀σ' s (Q:Rg),Ext F σ σ'->(∀q,Q q->σ.size<=q)->il s (Kb KH H.tb g.ls) σ' Q->HH σ' (λb=>Grow F σ b/\¬Q b) L (H.dY t g (Q6 KH H.tb g.ls))->R s σ'):W8.c (aW x.c.p) σ R:=by
 obtain⟨G,w,r,a⟩:=h.lE hx hg;refine τ hso r λσ' s Q e i m u=>?_;obtain⟨j,d⟩:=a σ' _ x.c Q rfl e i m;rw[show L.ts.set t {x with c:=x.c}=L.ts from Ql hx]at d;exact hR σ' s Q j i u d
def ny (S:aP)(L:dR)(tb:List bW):Prop:=∀m,S m->∃(P:Rg) (ts:List eC) (H:Hw),HH m P {L with ts:=ts} H/\H.tb=tb
theorem ny.dB {S:aP}{tb:List bW}(hS:ny S L tb){K:Sl->Prop}(hK:K L.dB):gQ S .s (Addr.add ⟨L.p,0,none⟩ 0) K:=⟨L.dB,λm a=>by obtain⟨_,_,_,h,_⟩:=hS m a;rw[add_lit,h.hd.cell];rfl,hK⟩
theorem ny.fY {S:aP}{tb:List bW}(hS:ny S L tb){K:Sl->Prop}(hK:K L.fY):gQ S .s (Addr.add ⟨L.p,0,none⟩ 7) K:=⟨L.fY,λm a=>by obtain⟨_,_,_,h,_⟩:=hS m a;rw[add_lit,h.hd.cell];rfl,hK⟩
theorem ny.rA {S:aP}{tb:List bW}(hS:ny S L tb)(h:HH σ F L H)(hy:L.ys[k]?=some Y){K:Option Addr->Prop}(hK:K (some ⟨Y.p,0,none⟩)):Ix L.fY.a L.fY.len (k:Int) 1 λa=>gQ S .p a K:=by
 have i:(eX (L.ys.map (·.p)))[k]?=some (.pointer (some ⟨Y.p,0,none⟩)):=by simp[eX,hy]
 obtain⟨b,o,j,_⟩:=h.nN.cell i;have x:=(cQ.1 hy).1;have r:=h.jY;have:=h.s.ys;rw[j];refine ix O O ⟨_,λm u=>?_,hK⟩;obtain⟨_,_,_,g,_⟩:=hS m u;obtain⟨y,w,d,e⟩:=g.nN.cell i;rw[j]at d;cases d;rw[add_lit,show o+(k:Int).toNat*1=o+k by omega];exact e
theorem ny.rC {S:aP}(hS:ny S L H.tb)(h:HH σ F L H)(hc:H.tb[k]?=some c){K:Int->Prop}(hK:K (c.size:Int)):Ix L.dB.a L.dB.len (k:Int) 3 λa=>gQ S bN (a.add 0) K:=by
 have g:(gg H.tb)[3*k+0]?=some (.int .i64 (c.size:Int)):=(HJ hc).1;obtain⟨b,o,r,_⟩:=h.jQ.cell g;have x:=(cQ.1 hc).1;have s:=h.oE;rw[r];refine ix O O ⟨_,λm u=>?_,hK⟩;obtain⟨_,_,_,j,p⟩:=hS m u;rw[←p]at g;obtain⟨y,w,d,e⟩:=j.jQ.cell g;have d:L.dB.a=_:=d;rw[r]at d;cases d;rw[add_lit,add_lit,show o+(k:Int).toNat*3+0=o+(3*k+0) by omega];exact e
end Go.Ar
namespace Go.Ar
open Go Go.Vc Go.Proofs
variable {σ u u':Hp}{F B P Q:Rg}{L:dR}{H H':Hw}{t k n pb:Nat}{A:AR}{Y:Lay}{x:eC}{g:Th}{c:bW}{l:Li}{cs:List Value}{parts:List (List Int)}{xs:List Int}
theorem HK.Cm (K:HK F σ B u P L H)(e:Ext B u u'){B':Rg}(hB:∀b,B' b->B b\/u.size<=b/\b<u'.size):HK F σ B' u' P L H:=by
 have r:=e.1;have j:=K.e.1;have i:iY B/\¬B 1:=⟨K.o.1.sub λb g=>(K.b b g).1,λg=>K.o.2 (K.b _ g).1⟩;refine⟨K.h.bU e (λb _ a d=>(K.p b a).2.1 d) i.1 i.2,K.e.fC e λb m=>.inr (K.b b m).1,λb a=>⟨(K.p b a).1,λg=>?_,by have:=(K.p b a).2.2;omega⟩,λb a=>?_,K.o⟩
 ·rcases hB b g with d|d
  ·exact(K.p b a).2.1 d
  ·have:=(K.p b a).2.2;omega
 ·rcases hB b a with d|d
  ·have:=K.b b d;omega
  ·omega
def sV (s:Sl):Value:=.slice s.a s.len s.cap
def mZ (pb:Nat)(parts:List (List Int)):Hp->Rg->Prop:=λu Q=>∃(ps:List Sl) (Qs:Nat->Rg),ps.length=parts.length/\Q pb/\bX u pb (ps.map sV)/\(∀j b,Qs j b->Q b/\b≠pb)/\(∀j j' b,Qs j b->Qs j' b->j=j') ∧
 ∀j s xs,ps[j]?=some s->parts[j]?=some xs->dO s 1 (Wv xs) u (Qs j)
theorem mZ.loc (pb:Nat)(parts:List (List Int)):dQ (mZ pb parts):=by
 rintro σ H F G ⟨w,Qs,D,y,p,i,A,u⟩ B g;have m:=g pb p.lt y;obtain⟨e,C⟩:=p;refine⟨w,λj b=>Qs j b/\b<σ.size,D,m.1,⟨e,m.2.trans C⟩,λj b d=>⟨(g b d.2 (i j b d.1).1).1,(i j b d.1).2⟩,λj z b a x=>A j z b a.1 x.1,λj s E a b=>(dO.loc _ _ _) _ _ _ _ (u j s E a b) B λb d r=>⟨⟨r,d⟩,(g b d (i j b r).1).2⟩⟩
theorem mZ.add (h:mZ pb parts u Q){a m e1 e2:Nat}(hm:m=parts.length)(ha:parts[a]?=some xs)(y:Int)(hl:xs.length<=1000000){K:aP}(hK:∀u',Ext Q u u'->mZ pb (parts.set a (xs++[y])) u' (Grow Q u)->K u') :
 Ix (some ⟨pb,0,none⟩) m (a:Int) 1 λa1=>jk a1 u λt35=>Nw (.cells #[.int .i64 y] e1 (0,0)) u λn37 v4=>App t35 1 8 e2 [.int .i64 0] ⟨some n37,1,1⟩ v4 λt38 v5=>Ix (some ⟨pb,0,none⟩) m (a:Int) 1 λa39=>dL a39 (.slice t38.a t38.len t38.cap) v5 λv6=>K v6:=by
 obtain⟨B,Qs,h1,N,H,A,P,R⟩:=h;have F:=(cQ.1 ha).1;have p:B[a]?=some (B[a]' O):=cM _;generalize (B[a]' O)=s at p;have i:=R a s xs p ha;have hsl:s.len=xs.length:=by have:=i.1;simp[Wv]at this;omega
 refine ix O O ?_;rw[add_lit,show 0+(a:Int).toNat*1=a by omega];refine H.Am (a:=s.a) (n:=s.len) (c:=s.cap) (by simp[p,sV]) ?_;refine nw (cs:=[.int .i64 y]) λv4 hz e d=>?_;have z:=(dO.loc _ _ _).bK ((dO.loc _ _ _).cut i) e;have J:=e.bZ H id;refine z.app (x:=⟨some ⟨u.size,0,none⟩,1,1⟩) (ys:=[.int .i64 y]) rfl rfl ?_ (by simp[dN]) ?_ ?_ nA λW v5 aa D G=>?_
 ·intro j w hw;rw[add_lit,zG,d.cell];exact hw
 ·simp only;omega
 ·simp only;omega
 have Z:=D.1;have M:bX v5 pb (B.map sV):=D.bZ J λr=>(A a pb r.1).2 rfl;refine ix O O ?_;rw[add_lit,show 0+(a:Int).toNat*1=a by omega];refine M.s0 aE λu' S g=>?_;have hz6:=S.1;have L:Ext (· = pb) v5 u':=S.ext;have V:Ext Q u u':=((bO.to e).trans (D.sub λb d=>(A a b d.1).1)).trans (L.sub λb d=>by rw[d];exact N);have U:=H.lt;refine hK u' V ⟨B.set a W,λj b=>Qs j b/\b<u.size\/j=a/\v4.size<=b/\b<v5.size,by simp[h1],.inl N,?_,λj b d=>?_,λj j' b d g=>?_,λj Y ys E C=>?_⟩
 ·rw[sZ];exact g
 ·rcases d with d|d
  ·exact⟨.inl (A j b d.1).1,(A j b d.1).2⟩
  ·exact⟨.inr O,O⟩
 ·rcases d with d|d<;>rcases g with g|g
  ·exact P j j' b d.1 g.1
  ·omega
  ·omega
  ·omega
 ·by_cases hja:j=a
  ·subst hja;rw[zM O]at E;rw[zM F]at C;cases E;cases C;have:=(dO.loc _ _ _).bU ((dO.loc _ _ _).cut G) L λb _ d r=>by
    rcases d.1 with h7|h7
    ·exact(A j b h7.1).2 r
    ·omega
   have X:Wv (xs++[y])=Wv xs++[.int .i64 y]:=by simp[Wv]
   rw[X];refine(dO.loc _ _ _).mono this λb _ d=>?_;rcases d.1 with h7|h7
   ·exact .inl h7
   ·exact .inr ⟨rfl,h7,d.2⟩
  ·rw[zj (Ne.symm hja)]at E C;have:=(dO.loc _ _ _).cut (R j Y ys E C);have:=(dO.loc _ _ _).bU ((dO.loc _ _ _).bU ((dO.loc _ _ _).bK this e) D λb _ d r=>hja (P j a b d.1 r.1)) L λb _ d r=>(A j b d.1).2 r;exact(dO.loc _ _ _).mono this λb _ d=>.inl d
theorem mZ.get (h:mZ pb parts u Q){a m:Nat}(hm:m=parts.length)(ha:parts[a]?=some xs){K:Sl->Prop}(hK:∀s,dO s 1 (Wv xs) u Q->s.len=xs.length->K s):Ix (some ⟨pb,0,none⟩) m (a:Int) 1 λa1=>jk a1 u K:=by
 obtain⟨g,Qs,y,z,p,w,x,i⟩:=h;have j:=(cQ.1 ha).1;have e:g[a]?=some (g[a]' O):=cM _;generalize (g[a]' O)=s at e;have d:=i a s xs e ha;refine ix O O ?_;rw[add_lit,show 0+(a:Int).toNat*1=a by omega];refine p.Am (a:=s.a) (n:=s.len) (c:=s.cap) (by simp[e,sV]) (hK s ((dO.loc _ _ _).mono d λb _ r=>(w a b r).1) ?_);have:=d.1;simp[Wv]at this;omega
theorem AL {bT:List AR}{x:Int}(h:0<=YK bT x):(YK bT x).toNat<bT.length/\YK bT x=((YK bT x).toNat:Int):=by
 refine⟨?_,O⟩;unfold YK at *;split at h
 ·omega
 ·rename_i hx;rw[zA hx];split at h
  ·rename_i i hi;have:=(yp.1 hi).1;simp only[dC];exact this
  ·omega
theorem L9 {bT:List AR}{x:Int}{xs:List Int}(h:0<=YK bT x):((List.range bT.length).map (ZW bT xs)).set (YK bT x).toNat (ZW bT xs (YK bT x).toNat++[x])=(List.range bT.length).map (ZW bT (xs++[x])):=by
 have a:=AL h;apply zy;intro j;by_cases hj:j<bT.length
 ·by_cases e:(YK bT x).toNat=j
  ·subst e;rw[zM (by simpa using hj)];simp only[ze,oc hj,zf,ZW,uN]
   congr 2
   rw[tF (by rw[←a.2];simp)];rfl
  ·rw[zj e];simp only[ze,oc hj,zf,ZW,uN];have:List.filter (λy=>YK bT y==(j:Int)) [x]=[]:=by
    rw[uB (by simp only[zX];omega)];rfl
   rw[this,j9]
 ·rw[zZ aE,zZ aE]
theorem Ha {K:aO}{body:(Bool->Hp->Prop)->Prop}(P:aO)(h1:∀r w,P r w->K r w)(h2:∀J:Bool->Hp->Prop,(∀r w,P r w->J r w)->body J):bY K body:=bY.intro (h2 K h1)
theorem Cp {K:eV [.b]}{body:eV [.b]->Prop}(P:aO)(h1:∀r w,P r w->K r w)(h2:∀J:eV [.b],(∀r w,P r w->J r w)->body J):Jn [.b] K body:=Jn.intro (h2 K h1)
theorem qm {K:eV []}{body:eV []->Prop}(P:aP)(h1:∀w,P w->K w)(h2:∀J:eV [],(∀w,P w->J w)->body J):Jn [] K body:=Jn.intro (h2 K h1)
theorem Vf {H:Hw}{k:Nat}{part:Nat->List Int}(j:Nat):Vj H k part (List.range (j+1))=(match (Vj H k part (List.range j)).bT[j]? with
 | some A=>if part j=[]then Vj H k part (List.range j)else(Vj H k part (List.range j)).cB j (Ze A (k:Int) (part j))
 | none=>Vj H k part (List.range j)):=by
 unfold Vj;rw[zz,mN];rfl
theorem SY {H:Hw}{k:Nat}{part:Nat->List Int}(j:Nat):(Vj H k part (List.range j)).bT.length=H.bT.length:=by
 induction j with
 | zero=>rfl
 | succ j ih=>
  rw[Vf];split
  ·split
   ·exact ih
   ·simp[Hw.cB,ih]
  ·exact ih
theorem M6 {H:Hw}{k:Nat}{part:Nat->List Int}(j:Nat):(Vj H k part (List.range j)).bQ=H.bQ:=by
 induction j with
 | zero=>rfl
 | succ j ih=>
  rw[Vf];split
  ·split<;>exact ih
  ·exact ih
theorem CE (H:Hw)(own k:Nat)(xs:List Int):(Gh H own k xs).bQ=H.bQ:=by
 unfold Gh;split
 ·split
  ·rfl
  ·rw[M6];split<;>rfl
 ·rfl
def CT (F:Rg)(σ:Hp)(L:dR)(H:Hw)(pb:Nat)(parts:List (List Int))(cs:List Value)(w:Hp):Prop:=∃Q P:Rg,HK F σ (λb=>b=σ.size\/Q b) w P L H/\mZ pb parts w Q/\bX w σ.size cs/\∀b,Q b->b≠σ.size
theorem Pg (h:HH σ F L H){own:Nat}(ho:own<H.bT.length)(k:Nat){sl:Sl}{xs:List Int}{X:Rg}(hs:cR sl 1 (Wv xs) σ X)(hX:∀b,b<σ.size->X b->¬F b)(hcap:sl.len<=sl.cap)(hx:∀x∈xs,iO x/\0<=YK H.bT x)(hl:xs.length<=1000000){R:aP}
 (hR:∀σ',Ext F σ σ'->HH σ' (Grow F σ) L (Gh H own k xs)->R σ'):ZC.c (aW L.p) (own:Int) (k:Int) sl σ R:=by
 refine ZC.o ?_;unfold ZC.v;have hsl:sl.len=xs.length:=by have:=hs.1;simp[Wv]at this;omega
 have ha2:=h.s.a2;have hal:=h.jY;have hs1:∀u,Ext F σ u->cR sl 1 (Wv xs) u (λb=>X b/\b<σ.size):=λu eu=>aH.bU (aH.cut hs) eu λb _ hx hf=>hX b hx.2 hx.1 hf;refine nw (cs:=[.int .i64 (k:Int),.slice sl.a sl.len sl.cap]) λv hz e d=>?_;have K1:=(HK.start h).box e hz;refine aG (K1.h.hd.rS rfl ?_);simp only;refine mk (n:=L.fY.len) O O λv1 hz1 D hb1=>?_;have K2:=K1.box D hz1;have hb2:=D.bZ d id;have W:mZ v.size ((List.range H.bT.length).map (ZW H.bT [])) v1 (λb=>b=v.size):=by
  refine⟨List.replicate H.bT.length ⟨none,0,0⟩,λ_ _=>False,by simp,rfl,?_,λj b d=>d.elim,λj j' b d=>d.elim,λj s ys g h2=>?_⟩
  ·have:(List.replicate L.fY.len [Value.slice none 0 0]).flatten=(List.replicate H.bT.length (⟨none,0,0⟩:Sl)).map sV:=by
    rw[hal];simp[sV]
   rw[←this];exact hb1
  ·simp only[ze,qH]at h2;obtain⟨a,_,rfl⟩:=h2;simp only[nr]at g;split at g
   ·cases g;exact dO.nil _ _ _ _
   ·cases g
 have ae:∀ys:List Int,L.fY.len=((List.range H.bT.length).map (ZW H.bT ys)).length:=λys=>by simp[hal]
 refine hb2.rS rfl ?_;refine ZU (a:=bN) (λ(z:Int) w=>∃i:Nat,z=(i:Int)/\i<=xs.length/\CT F σ L H v.size ((List.range H.bT.length).map (ZW H.bT (xs.take i))) [.int .i64 (k:Int),.slice sl.a sl.len sl.cap] w) (λz _=>xs.length-z.toNat)
  ⟨0,rfl,O,λb=>b=v.size,_,⟨K2.h,K2.e,λb d=>⟨(K2.p b d).1,λhx=>(K2.p b d).2.1 (hx.imp .inr id),(K2.p b d).2.2⟩,λb d=>K2.b b (d.imp .inr id),K2.o⟩,W,hb2,λb d=>O⟩ ?_
 rintro z w ⟨i,rfl,hi,Q,P,K,W,C,hQ⟩;refine cI (λG=>?_) λag=>?_
 ·simp only at G;have hi':i<xs.length:=by omega
  have aa:xs[i]?=some xs[i]:=cM hi';generalize xs[i]=y at aa;have hy:=hx y (zE aa);refine(hs1 w K.e).pa aa (CS K.h y hy.1 λZ D=>?_);have G:=AL hy.2;rw[G.2];have hP1:mZ v.size _ Z (λb=>Q b/\b<w.size):=(mZ.loc _ _).bK ((mZ.loc _ _).cut W) D;have hpart:((List.range H.bT.length).map (ZW H.bT (xs.take i)))[(YK H.bT y).toNat]?=some (ZW H.bT (xs.take i) (YK H.bT y).toNat):=by
   simp only[ze,oc G.1,zf]
  have hpl1:(ZW H.bT (xs.take i) (YK H.bT y).toNat).length<=1000000:=by
   have:=m5 (λx=>YK H.bT x==(((YK H.bT y).toNat:Nat):Int)) (xs.take i);simp only[ZW];rw[zO]at this;omega
  refine hP1.add (ae _) hpart y hpl1 λw2 e2 af=>?_;rw[L9 hy.2]at af;have ht:xs.take i++[y]=xs.take (i+1):=by rw[zg,aa];rfl
  rw[ht]at af;have hz1:=D.1;have hz2:=e2.1;refine cA (m:=i+1) O O ⟨⟨i+1,rfl,O,λb=>(Q b/\b<w.size)\/Z.size<=b/\b<w2.size,P,(K.fr D).Cm (e2.sub λb d=>.inr d.1) λb d=>?_,(mZ.loc _ _).mono af λb d S=>?_,?_,λb d=>?_⟩,O⟩
  ·rcases d with d|d|d
   ·exact .inl (.inl d)
   ·exact .inl (.inr d.1)
   ·exact .inr d
  ·rcases S with S|S
   ·exact .inl S
   ·exact .inr ⟨S,d⟩
  ·exact e2.bZ (D.bZ C id) λhx=>hQ _ hx.1 rfl
  ·have:=(K.b σ.size (.inl rfl)).2;rcases d with d|d
   ·exact hQ b d.1
   ·omega
 ·have hii:i=xs.length:=by simp only at ag;omega
  subst hii;rw[zl]at W;obtain⟨A,hA⟩:∃A,H.bT[own]?=some A:=⟨_,cM ho⟩;obtain⟨Y,hY,_,_⟩:=h.ar hA;have M:Gh H own k xs=(if(ZW H.bT xs own).length=xs.length/\Vi A (k:Int) xs=true then H.cB own (Q9 A (k:Int) xs)
   else Vj (if(ZW H.bT xs own).length=xs.length then H.cB own (Q9 A (k:Int) xs)else H) k (ZW H.bT xs) (List.range H.bT.length)):=by
   unfold Gh;rw[hA]
  have hown:((List.range H.bT.length).map (ZW H.bT xs))[own]?=some (ZW H.bT xs own):=by
   simp only[ze,oc ho,zf]
  refine qm (λw=>¬((ZW H.bT xs own).length=xs.length/\Vi A (k:Int) xs=true)/\CT F σ L (if(ZW H.bT xs own).length=xs.length then H.cB own (Q9 A (k:Int) xs)else H) v.size ((List.range H.bT.length).map (ZW H.bT xs)) [.int .i64 (k:Int),.slice sl.a sl.len sl.cap] w) (λw hw=>?_) λJ hJ=>?_
  ·obtain⟨hno,hw⟩:=hw;rw[zA hno]at M;generalize hH1:(if(ZW H.bT xs own).length=xs.length then H.cB own (Q9 A (k:Int) xs)else H)=H1 at hw M
   have hH1l:H1.bT.length=H.bT.length:=by
    rw[←hH1];split
    ·simp[Hw.cB]
    ·rfl
   refine ZU (a:=bN) (λ(z:Int) w=>∃j:Nat,z=(j:Int)/\j<=H.bT.length/\CT F σ L (Vj H1 k (ZW H.bT xs) (List.range j)) v.size ((List.range H.bT.length).map (ZW H.bT xs)) [.int .i64 (k:Int),.slice sl.a sl.len sl.cap] w) (λz _=>H.bT.length-z.toNat) ⟨0,rfl,O,hw⟩ ?_;rintro z w ⟨j,rfl,hj,Q,P,K,W,C,hQ⟩;refine cI (λG=>?_) λag=>?_
   ·simp only at G;have hj':j<H.bT.length:=by omega
    have hpj:((List.range H.bT.length).map (ZW H.bT xs))[j]?=some (ZW H.bT xs j):=by
     simp only[ze,oc hj',zf]
    refine W.get (ae _) hpj λs N V=>?_;have hfl:=SY (H:=H1) (k:=k) (part:=ZW H.bT xs) j;obtain⟨B,hB⟩:∃B,(Vj H1 k (ZW H.bT xs) (List.range j)).bT[j]?=some B:=⟨_,cM O⟩;have E:=Vf (H:=H1) (k:=k) (part:=ZW H.bT xs) j;rw[hB]at E;simp only at E;refine cI (λhpos=>?_) λhz0=>?_
    ·have U:ZW H.bT xs j≠[]:=λe=>by rw[e]at V;simp at V;omega
     rw[zA U]at E;obtain⟨Y,hY,_,_⟩:=K.h.ar hB;refine aG (K.h.hd.rS rfl (K.h.rA hY (C.rI rfl ?_)));refine RR K.h hB hY (k:Int) (dO.fX N) (λb _ S hp=>(K.p b hp).2.1 (.inr S)) (λx ah=>(hx x (zH.1 ah).1).1) ?_ (dO.cap N) λZ D g=>?_
     ·have:=m5 (λx=>YK H.bT x==(j:Int)) xs;simp only[ZW];omega
     ·have hz1:=D.1;rw[←E]at g;refine cA (m:=j+1) O O ⟨⟨j+1,rfl,O,Q,_,K.to D g λb _ d=>d,(mZ.loc _ _).bU W D λb _ S hp=>(K.p b hp).2.1 (.inr S),K.cW D C (.inl rfl),hQ⟩,O⟩
    ·have U:ZW H.bT xs j=[]:=DL O;rw[zB U]at E;refine cA (m:=j+1) O O ⟨⟨j+1,rfl,O,Q,P,by rw[E];exact K,W,C,hQ⟩,O⟩
   ·have hjj:j=H.bT.length:=by simp only at ag;omega
    subst hjj;rw[M]at hR;exact hR w K.e (K.fin h)
  ·refine W.get (ae _) hown λs N V=>C.rS rfl ?_;refine cU (λheq=>?_) λU=>?_
   ·have ab:(ZW H.bT xs own).length=xs.length:=by simp only[zX]at heq;omega
    rw[zB ab]at M hJ;have hS:ny (λu=>(∃P' H',HH u P' L H'/\H'.tb=H.tb)/\bX u σ.size [.int .i64 (k:Int),.slice sl.a sl.len sl.cap]) L H.tb:=λm hm=>by
     obtain⟨⟨P',H',g,h2⟩,_⟩:=hm;exact⟨P',L.ts,H',g,h2⟩
    refine⟨λu=>(∃P' H',HH u P' L H'/\H'.tb=H.tb)/\bX u σ.size [.int .i64 (k:Int),.slice sl.a sl.len sl.cap],⟨⟨_,_,K.h,rfl⟩,C⟩,aG (hS.fY (hS.rA K.h hY ?_))⟩;refine⟨(k:Int),λm hm=>by rw[add_lit,hm.2.cell];rfl,⟨sl,λm hm=>by rw[add_lit,hm.2.cell];rfl,?_⟩⟩;refine Ou K.h hA hY (k:Int) (hs1 w K.e) (λx ah=>(hx x ah).1) λZ D g=>?_;have K1:=K.to D g λb _ d=>d;refine⟨⟨⟨_,_,g,rfl⟩,K.cW D C (.inl rfl)⟩,?_⟩;have fin:∀r,r=Vi A (k:Int) xs->((r=true->R Z)/\(r=false->J Z)):=λr hr=>by
     refine⟨λad=>?_,λad=>hJ Z ⟨λhx=>Bool.noConfusion ((ad.symm.trans hr).trans hx.2),Q,_,K1,(mZ.loc _ _).bU W D λb _ S hp=>(K.p b hp).2.1 (.inr S),K.cW D C (.inl rfl),hQ⟩⟩;rw[zB ⟨ab,by rw[←hr,ad]⟩]at M;rw[M]at hR;exact hR Z K1.e (K1.fin h)
    refine Ha (λr w=>w=Z/\r=Vi A (k:Int) xs) (λr w' ⟨hw,hr⟩=>?_) λJ3 hJ3=>?_
    ·subst hw;exact cU (λg=>(fin r hr).1 g) λg=>(fin r hr).2 g
    ·refine cU (λg=>hJ3 _ _ ⟨rfl,?_⟩) λg=>hJ3 _ _ ⟨rfl,g.symm⟩;have:HP A (k:Int) xs=0:=by
      unfold Vi at g;simp only[zF,zS]at g;exact g.1
     rw[this,g];rfl
   ·have ac:¬(ZW H.bT xs own).length=xs.length:=by
     simp only[m0]at U;omega
    rw[zA ac]at hJ;exact hJ w ⟨λhx=>ac hx.1,Q,P,K,W,C,hQ⟩
theorem gY {w:Hp}(K:HK F σ B w P L H)(hB:B n){p q:Int}(hb:bX w n [.int .i64 p,.int .i64 q]){x y:Int}{K':Int->Int->Hp->Prop}(hK:∀w',HK F σ B w' P L H->K' x y w') :
 dL (Addr.add ⟨n,0,none⟩ 0) (.int .i64 x) w λv3=>dL (Addr.add ⟨n,0,none⟩ 1) (.int .i64 y) v3 λv4=>fF .i64 (Addr.add ⟨n,0,none⟩ 0) v4 λres=>fF .i64 (Addr.add ⟨n,0,none⟩ 1) v4 λqe=>K' res qe v4:=
 hb.s1 aA λv3 o3 b=>b.s1 aA λv4 o4 a=>a.rI rfl (a.rI rfl (hK v4 ((K.own o3 hB).own o4 hB)))
theorem SD (h:HH σ F L H)(ht:t<H.bQ.length)(x:Int)(hx:iO x)(hr:bV H.live x=none->∀A∈H.bT,jb A)(hlen:∀g,H.bQ[t]?=some g->g.bP.length<=1000)(h0:∀b,bV H.live x=some b->0<=x){R:Value->Int->Int->Hp->Prop}
 (hR:∀σ' ts',Ext F σ σ'->HH σ' (Grow F σ) {L with ts:=ts'} (UZ H t x).1->R (nv (UZ H t x).2.1) (UZ H t x).2.2.1 (UZ H t x).2.2.2 σ'):Zy.c (aW L.p) (t:Int) x σ R:=by
 refine Zy.o ?_;unfold Zy.v;refine nw (cs:=[.int .i64 0,.int .i64 0]) λv hz e hb=>?_;have K1:=(HK.start h).box e hz;refine aG (K1.h.hd.rM rfl ⟨_,K1.h.kC,?_⟩);refine nw (cs:=[.int .i64 0,.int .i64 0,.int .i64 0,.int .i64 0]) λv1 hz1 e1 hb1=>?_;have K2:=K1.box e1 hz1;have hbv:=e1.bZ hb id;have m:σ.size≠v.size:=by omega
 refine hb1.s1 aA λv2 o2 b2=>b2.s1 aA λv3 o3 b3=>b3.s1 aA λv4 o4 b4=>b4.s1 aA λv5 o5 b5=>?_;have K5:=(((K2.own o2 (.inr rfl)).own o3 (.inr rfl)).own o4 (.inr rfl)).own o5 (.inr rfl);have z:=Ws o5 (Ws o4 (Ws o3 (Ws o2 hbv m) m) m) m;have hL:L = {L with ts:=L.ts}:=rfl;cases hm:bV H.live x with
 | none=>
  have hno:UZ H t x=(H,none,0,mG H x):=by unfold UZ;rw[hm]
  rw[hno]at hR;simp only at hR;refine cK rfl ?_;refine qm (λw=>mG H x=8/\bO v5 w) (λw ⟨h8,ew⟩=>?_) λJ S=>?_
  ·rw[h8]at hR;exact gY (n:=σ.size) (K5.fr ew) (.inl (.inr rfl)) (ew.bZ z id) λC K'=>hR C L.ts K'.e (K'.fin h)
  ·refine CS K5.h x hx λv9 Z=>?_;have K9:=K5.fr Z;have hb9:=Z.bZ z id;refine cI (λW=>?_) λhlt=>S v9 ⟨zA O,Z⟩;have N:=AL W;obtain⟨A,hA⟩:∃A,H.bT[(YK H.bT x).toNat]?=some A:=⟨_,cM N.1⟩;obtain⟨Y,hY,_,hAY⟩:=K9.h.ar hA;have a:mG H x=(match U2 A x with
    | some (k,y)=>if 0<=k/\(y:Int)=x then(9:Int)else 8
    | none=>8):=by unfold mG;rw[zB W,hA];rfl
   rw[N.2];refine aG (K9.h.hd.rS rfl (K9.h.rA hY ?_));refine RM hAY (hr hm A (zE hA)) x hx (λB k y i hf=>?_) λB i hf=>?_
   ·rw[hf]at a;simp only at a;rw[a]at hR S;have K10:=K9.fr i;have U:=i.bZ hb9 id;refine Ha (λr w=>w=B/\r=decide (0<=k)) (λr w ⟨hw,d⟩=>?_) λJ1 E=>?_
    ·subst hw;subst d;refine Ha (λr w2=>w2=w/\r=decide (0<=k/\(y:Int)=x)) (λr w2 ⟨hw,d⟩=>?_) λJ2 K=>?_
     ·subst d;rw[hw];refine cI (λD=>?_) λD=>?_
      ·rw[zB D]at hR;exact gY (n:=σ.size) K10 (.inl (.inr rfl)) U λC K'=>hR C L.ts K'.e (K'.fin h)
      ·exact S w ⟨zA D,Z.trans i⟩
     ·refine cI (λD=>K _ _ ⟨rfl,?_⟩) λD=>K _ _ ⟨rfl,?_⟩
      ·by_cases hyx:(y:Int)=x
       ·rw[zV (⟨D,hyx⟩:0<=k/\(y:Int)=x),zX.2 hyx]
       ·rw[zh (λhx=>hyx hx.2),m0.2 hyx]
      ·rw[zh (λhx=>D hx.1)]
    ·exact cK rfl (E _ _ ⟨rfl,rfl⟩)
   ·rw[hf]at a;simp only at a;rw[a]at S;refine Ha (λr w=>w=B/\r=false) (λr w ⟨hw,d⟩=>?_) λJ1 E=>cG rfl (E _ _ ⟨rfl,rfl⟩);subst hw;subst d;exact bY.intro (cG rfl (cG rfl (S w ⟨rfl,Z.trans i⟩)))
 | some b=>
  have hb0:=h0 b hm;have hfd:UZ H t x=(if b.2.2.1<0 then({H with live:=cT H.live x},some (.dI (x/256) b.2.2.2),0,0)
   else(QR {H with live:=cT H.live x} t b.2.2.1.toNat [x],some (.put b.2.2.1.toNat x),0,0)):=by unfold UZ;rw[hm]
  rw[hfd]at hR;have hgb:(bV H.live x).getD ((0,0,0,0):Bk)=b:=by rw[hm];rfl
  rw[hgb]at b5;refine cG rfl ?_;refine aG (K5.h.hd.rM rfl ?_);obtain⟨hF,P⟩:=K5.h.rR;refine⟨_,K5.h.kC,λv6 o6 _ hm6=>?_⟩;obtain⟨e6,h6⟩:=P v6 _ (o6 _ rfl) hm6;have K6:=K5.to e6 h6 λb _ hb=>.inl hb;have V:=K5.cW e6 z (.inl (.inr rfl));have s:=K5.cW e6 b5 (.inr rfl);refine s.rI rfl (cI (λaa=>?_) λhnn=>?_)
  ·have G:b.2.2.1<0:=aa;rw[zB G]at hR;refine nz aB (ar (by rw[YN O];omega) (by rw[YN O];unfold iO at hx;omega) (s.rI rfl ?_));rw[YN O];exact gY (n:=σ.size) K6 (.inl (.inr rfl)) V λC K'=>hR C L.ts K'.e (K'.fin h)
  ·have M:¬b.2.2.1<0:=hnn;rw[zA M]at hR;refine s.rI rfl (nw (cs:=[.int .i64 x]) λv7 hz7 e7 hb7=>?_);have K7:=K6.box e7 hz7;have Q:=e7.bZ V id;have hc7:=e7.bZ s id;have X:b.2.2.1=((b.2.2.1.toNat:Nat):Int):=by omega
   have hs7:cR ⟨some ⟨v6.size,0,none⟩,1,1⟩ 1 (Wv [x]) v7 (· = v6.size):=hb7.fX (o:=0) rfl rfl λj hj=>by rw[zG];rfl
   have hz6:=K6.e.1;rw[X];refine yv K7.h (t:=t) ht b.2.2.1.toNat hs7 (zD _) aA (λq _ u hp=>(K7.p q hp).2.1 (.inr u)) (K7.o.1.sub λq u=>O) (λu=>K7.o.2 O) hlen λv8 ts8 e8 h8=>?_;have K8:=(K6.fr e7).sO e8 h8 λq hql u=>by
    rcases u with u|u
    ·exact u.imp id .inl
    ·refine .inr (.inr ⟨.inr O,λhB=>?_⟩);have:=(K6.b q hB).2;omega
   have hb8:=K7.cW e8 Q (.inl (.inl (.inr rfl)));have hc8:=K7.cW e8 hc7 (.inl (.inr rfl));refine hc8.rI (x:=((b.2.2.1.toNat:Nat):Int)) (by rw[←X];rfl) ?_;exact gY (n:=σ.size) K8 (.inl (.inr rfl)) hb8 λC K'=>hR C ts8 K'.e (K'.fin h)
end Go.Ar
namespace Go.Ar
open Go Go.Vc Go.Proofs
variable {σ u u':Hp}{F B P Q:Rg}{L:dR}{H H':Hw}{t k n pb:Nat}{A:AR}{Y:Lay}{x:eC}{g:Th}{c:bW}{l:Li}{cs:List Value}
theorem sj {t' t:TypeId}{w:Value}{A B:Prop}(hne:t'≠t)(h:B):∃is:Bool,kN (.iface t' w) t [] [] is/\If is A B:=⟨false,⟨rfl,.inr ⟨_,_,rfl,hne⟩⟩,cG rfl h⟩
theorem lX {t' t:TypeId}{w:Value}{A B:Int->Prop}(hne:t'≠t)(h:B 0):∃x:Int,∃is:Bool,kN (.iface t' w) t [.int .i64 x] [.int .i64 0] is/\If is (A x) (B x):=⟨0,false,⟨rfl,.inr ⟨_,_,rfl,hne⟩⟩,cG rfl h⟩
theorem jH {t' t:TypeId}{w:Value}{A B:Int->Int->Prop}(hne:t'≠t)(h:B 0 0):∃x:Int,∃y:Int,∃is:Bool,kN (.iface t' w) t [.int .i64 x,.int .i64 y] [.int .i64 0,.int .i64 0] is/\If is (A x y) (B x y):=⟨0,0,false,⟨rfl,.inr ⟨_,_,rfl,hne⟩⟩,cG rfl h⟩
theorem CB {t:TypeId}{A B:Prop}(h:A):∃is:Bool,kN (.iface t (.agg #[])) t [] [] is/\If is A B:=⟨true,rfl,cK rfl h⟩
theorem Bm {t:TypeId}{a:Int}{A B:Int->Prop}(h:A a):∃x:Int,∃is:Bool,kN (.iface t (.agg #[.int .i64 a])) t [.int .i64 x] [.int .i64 0] is/\If is (A x) (B x):=⟨a,true,rfl,cK rfl h⟩
theorem wG {t:TypeId}{a b:Int}{A B:Int->Int->Prop}(h:A a b):∃x:Int,∃y:Int,∃is:Bool,kN (.iface t (.agg #[.int .i64 a,.int .i64 b])) t [.int .i64 x,.int .i64 y] [.int .i64 0,.int .i64 0] is/\If is (A x y) (B x y):=⟨a,b,true,rfl,cK rfl h⟩
theorem HH.tc (h:HH u P L H)(hx:L.ts[t]?=some x)(hg:H.bQ[t]?=some g){b o:Nat}(ha:L.cL.a=some ⟨b,o,none⟩){d:Nat}(hd:d<3){v:Value}(hv:(jP (x,g))[d]?=some v):cell u (Addr.add ⟨b,o+3*t,none⟩ d)=some v:=by
 obtain⟨j,m,e,i⟩:=Ui h.km hx hg hd hv;rw[ha]at e;cases e;rw[add_lit,show o+3*t+d=o+(3*t+d) by omega];exact i
theorem HH.xD (h:HH u P L H)(hP:∀b,P b->b<u.size)(hx:L.ts[t]?=some x)(hg:H.bQ[t]?=some g)(N:Rg)(hN:∀b,b<u.size->P b->¬N b)(oN:iY N)(oN2:¬N 1) :
 ∃G D:Rg,(∀b,G b->P b)/\(∀b,D b->P b)/\(∀b,G b->¬D b)/\il x.h g.bP u G/\(∀u1,Ext G u u1->cR L.cL 3 (ib L.ts H.bQ) u1 D) ∧
 ∀(u1:Hp) (s:Sl) (bs:List Bt) (G':Rg),Ext G u u1->(∀b,G' b->G b\/N b)->il s bs u1 G'->∀{b o:Nat} (ha:L.cL.a=some ⟨b,o,none⟩) {K:aP},
  (∀u2,Ext D u1 u2->HH u2 (λb=>P b/\¬G b\/G' b/\b<u1.size) {L with ts:=L.ts.set t {x with h:=s}} {H with bQ:=H.bQ.set t {g with bP:=bs}}->K u2) →
  dL (Addr.add ⟨b,o+3*t,none⟩ 1) (.slice s.a s.len s.cap) u1 K:=by
 have X:=h.jy;have M:=HU h.s.ts;have R:=(cQ.1 hg).1;obtain⟨G,D,B,y,hd,J,F,_,r⟩:=h.sE hx hg N hN oN oN2;have w:∀u1,Ext G u u1->bR L.cL 3 (ib L.ts H.bQ) u1 D:=λu1 e=>aI.bU F e λb _ d hx=>hd b hx d;refine⟨G,D,B,y,hd,J,λu1 e=>bR.fX (w u1 e),λu1 s bs G' e i E b o ha K Q=>?_⟩;have S:o=0:=by
  rcases F.2 with⟨h0,_⟩|⟨V,_,_,ha',_⟩
  ·omega
  ·rw[ha]at ha';cases ha';rfl
 subst S;have m:∀b,G' b->¬D b:=λb d hx=>by
  rcases i b d with h1|h1
  ·exact hd b h1 hx
  ·exact hN b (hP b (y b hx)) (y b hx) h1
 refine(w u1 e).st (j:=3*t+1) O (λV p=>by rw[ha]at p;cases p;rw[add_lit];congr 1;omega) λu2 z C=>?_;have A:=(il.loc _ _).bU ((il.loc _ _).cut E) z λb _ d hx=>m b d.1 hx;obtain⟨W,U⟩:=r u2 s bs (Cut G' u1) D ((e.sub λb d=>.inl d).trans (z.sub λb d=>.inr d)) (λb d=>(i b d.1).imp .inl id) (λb d=>.inl (.inr d)) (λb d=>m b d.1) A C;refine Q u2 z (U.mono (λb _ d=>?_) (λb (d:P b/\¬G b\/G' b/\b<u1.size)=>?_) λ(d:P _/\¬G _\/G' _/\_<u1.size)=>?_)
 ·rcases d with d|d|d
  ·exact .inl ⟨d.1,λhx=>d.2.2 (.inl hx)⟩
  ·exact .inr d
  ·exact .inl ⟨y b d,λhx=>hd b hx d⟩
 ·rcases d with d|d
  ·exact h.o b d.1
  ·exact(i b d.1).elim (λhx=>h.o b (B b hx)) (oN b)
 ·rcases d with d|d
  ·exact h.o2 d.1
  ·exact(i _ d.1).elim (λhx=>h.o2 (B _ hx)) oN2
theorem il.m6 {s:Sl}{G:Rg}{xs:List Int}{r:List Bt}(h:il s ((k,xs)::r) u G):∃(so:Sl) (ps:List (Nat×Sl)) (D:Rg),dO s 2 (fN ((k,so)::ps)) u (λb=>G b/\¬D b)/\cR so 1 (Wv xs) u (λb=>D b/\lq so b)/\so.len<=so.cap/\kY ps r u (λb=>D b/\¬lq so b)/\(∀b,D b->G b)/\uR ps/\(∀x∈r,x.2≠[])/\xs≠[]:=by
 obtain⟨ps,D,g,j,M,L,e⟩:=h;cases ps with
 | nil=>have:=j.1;simp at this
 | cons p ps=>
  obtain⟨F,so⟩:=p;obtain⟨A,y,z⟩:=j.2 0 (F,so) (k,xs) rfl rfl;simp only at A y z;subst A;have d:=mR.1 L;refine⟨so,ps,D,g,y.ym,z,⟨by have:=j.1;simpa using this,λi p x w m=>?_⟩,M,d.2,λx m=>e x (kL _ m),e _ kX⟩;obtain⟨J,C,E⟩:=j.2 (i+1) p x (by simpa using w) (by simpa using m);refine⟨J,aH.mono C.ym λb _ B=>⟨B.1,?_⟩,E⟩;rintro⟨a,h1,h2⟩;obtain⟨H,N,K⟩:=B.2;exact d.1 p (zE w) a H h1 N (h2.trans K.symm)
theorem il.mH {s:Sl}{G:Rg}{b:Bt}{r:List Bt}(h:il s (b::r) u G):il ⟨if s.cap=1 then s.a else s.a.map (·.add (1*2)),s.len-1,s.cap-1⟩ r u G:=by
 have j:=h.len;obtain⟨k,B⟩:=b;obtain⟨y,i,D,d,x,A,g,p,m,e,z⟩:=h.m6;exact⟨i,D,d.from (lo:=1) (by simp at j;omega),(kY.loc _ _).mono g λb _ w=>w.1,p,m,e⟩
theorem FX {s so:Sl}{ps:List (Nat×Sl)}{G:Rg}(h:cR s 2 (fN ((k,so)::ps)) u G){K:Addr->Prop}(hK:∀a,cell u (Addr.add a 0)=some (.int .i64 (k:Int))->cell u (Addr.add a 1)=some (.slice so.a so.len so.cap)->K a):Ix s.a s.len 0 2 K:=by
 obtain⟨b,o,i,m⟩:=h.cell (j:=0) (v:=.int .i64 (k:Int)) rfl;obtain⟨r,p,d,e⟩:=h.cell (j:=1) (v:=.slice so.a so.len so.cap) rfl;have g:=h.1;rw[KF]at g;simp only[zP]at g;rw[i]at d;cases d;rw[i];refine ix O O ?_;rw[add_lit];exact hK _ (by rw[add_lit];exact m) (by rw[add_lit];exact e)
theorem il.app {s s2:Sl}{G Q:Rg}{bs bs2:List Bt}{e:Nat}(h:il s bs u G)(h2:il s2 bs2 u Q)(hd:∀b,G b->¬Q b)(hl:bs.length+bs2.length<=1000){K:Sl->Hp->Prop}
 (hK:∀s' u',Ext G u u'->il s' (bs++bs2) u' (λb=>G b\/Q b\/u.size<=b)->K s' u'):App s 2 32 e [.int .i64 0,.slice none 0 0] s2 u K:=by
 have l1:=h.len;have l2:=h2.len;obtain⟨V,D,y,E,Z,H,z⟩:=h;obtain⟨J,D2,A,m,r,P,w⟩:=h2;by_cases h0:s2.len=0
 ·have S:bs2=[]:=DL O;subst S;refine y.DC h0 (by
   have:s.len*32<=1000*32:=kO (by simp at hl;omega) O;omega) (by simp at hl;omega) λY=>hK _ u (Ext.refl _ _) ?_
  rw[j9];exact⟨V,D,(dO.loc _ _ _).mono Y λb _ d=>⟨.inl d.1,d.2⟩,E,λb d=>.inl (Z b d),H,z⟩
 ·have e1:(s.len+s2.len)*32<=1000*32:=kO O O;refine((dO.loc _ _ _).cut y).app (ys:=fN J) rfl (by rw[KF];have:=m.1;omega) A.fX.rd Hs O O O λs' u' _ L Y=>hK s' u' (L.sub λb d=>d.1.1) ?_;have hz:=L.1;have W:=E.1;refine⟨V++J,λb=>D b/\b<u.size\/D2 b/\b<u.size,?_,⟨by simp[E.1,m.1],λi p x C g=>?_⟩,λb d=>?_,pq.2 ⟨H,P,λp C q hq a a' R U e3=>?_⟩,λx g=>(zR.1 g).elim (z x) (w x)⟩
  ·rw[U9];refine(dO.loc _ _ _).mono Y λb _ d=>?_;rcases d with d|d
   ·exact⟨.inl d.1.1,λg=>g.elim (λg=>d.1.2 g.1) λg=>hd b d.1.1 (r b g.1)⟩
   ·exact⟨.inr (.inr d),λg=>by rcases g with g|g<;>omega⟩
  ·rcases ma i V.length with B|B
   ·rw[zd B]at C;rw[zd O]at g;obtain⟨X,M,N⟩:=E.2 i p x C g;exact⟨X,aH.mono (aH.bU (aH.cut M) L λb _ d g=>g.1.2 d.1) λb _ d=>.inl d,N⟩
   ·rw[zn B]at C;rw[zn O,←W]at g;obtain⟨X,M,N⟩:=m.2 _ p x C g;exact⟨X,aH.mono (aH.bU (aH.cut M) L λb _ d g=>hd b g.1.1 (r b d.1)) λb _ d=>.inr d,N⟩
  ·rcases d with d|d
   ·exact .inl (Z b d.1)
   ·exact .inr (.inl (r b d.1))
  ·obtain⟨i,B⟩:=zN C;obtain⟨j,H⟩:=zN hq;have hil:=(cQ.1 B).1;have hjl:=(cQ.1 H).1;have hy:bs[i]?=some (bs[i]' O):=cM _;have F:bs2[j]?=some (bs2[j]'(by have:=m.1;omega)):=cM _;have b1:=(E.2 i p _ B hy).2.1.bZ (by simpa[Wv]using z _ (zE hy)) ⟨a,R,rfl⟩;have b2:=(m.2 j q _ H F).2.1.bZ (by simpa[Wv]using w _ (zE F)) ⟨a',U,rfl⟩;rw[e3]at b1;exact hd _ (Z _ b1.1) (r _ b2.1)
theorem HK.wx (K:HK F σ B u P L H){B':Rg}(h1:∀b,B' b->σ.size<=b/\b<u.size/\¬P b):HK F σ (λb=>B b\/B' b) u P L H:=
 ⟨K.h,K.e,λb a=>⟨(K.p b a).1,λg=>g.elim (K.p b a).2.1 λd=>(h1 b d).2.2 a,(K.p b a).2.2⟩,λb a=>a.elim (K.b b) λd=>⟨(h1 b d).1,(h1 b d).2.1⟩,K.o⟩
theorem ZM (hg:H.bQ[t]?=some g)(f:Th->Th):H.eA t f = {H with bQ:=H.bQ.set t (f g)}:=by
 unfold Hw.eA;rw[K0 hg]
theorem GJ (hg:H.bQ[t]?=some g):H.kI t=g:=by unfold Hw.kI;rw[zL,hg];rfl
theorem Ue (hc:H.tb[k]?=some c):H.cls k=c:=by unfold Hw.cls;rw[zL,hc];rfl
theorem y5 (hl:g.ls[k]?=some l):g.li k=l:=by unfold Th.li;rw[zL,hl];rfl
theorem AO (ha:H.bT[H.own t]?=some A):H.eN t=A:=by unfold Hw.eN;rw[zL,ha];rfl
theorem kh (h:HS L H)(t:Nat):H.own t<H.bT.length:=uc _ (by have:=h.a1;omega)
theorem HH.Ca (h:HH u P L H)(hx:L.ts[t]?=some x)(hg:H.bQ[t]?=some g):g.ls.length=H.tb.length:=by
 obtain⟨G,_,a,_⟩:=h.pJ hx hg;exact a.len
theorem Jp (ha:H.bT[k]?=some A):H.cB k A=H:=by unfold Hw.cB;rw[Ql ha]
theorem PQ (l:List Nat):ints l=Wv (l.map λ(x:Nat)=>(x:Int)):=by simp[ints,Wv]
theorem Dy (f:bW->Li->List Int×Li)(tb:List bW)(ls:List Li):(Kb f tb ls).length<=tb.length:=by
 unfold Kb;exact zI (List.length_filterMap_le _ _) aA
theorem HH.lZ (h:HH u P L H):H.tb.length<=40:=by
 obtain⟨x,g,a,d⟩:=h.th (t:=0) h.s.t1;obtain⟨G,_,b,_⟩:=h.pJ a d;exact b.nC
theorem Pn {s:Sl}{b o:Nat}(ha:s.a=some ⟨b,o,none⟩)(hl:0<s.len){K:Addr->Prop}(hK:K ⟨b,o+0,none⟩):Ix s.a s.len 0 1 K:=by
 rw[ha];exact ix (ri _) O (by rw[add_lit];exact hK)
theorem RW {s:Sl}{ps:List (Nat×Sl)}{G:Rg}(h:cR s 2 (fN ps) σ G)(hl:s.len<=1000000){R:Sl->Hp->Prop}(hR:∀s' σ',s'.len=s.len->bO σ σ'->bR s' 2 (fN ps) σ' (λb=>σ.size<=b)->R s' σ'):Wp.c s σ R:=by
 refine Wp.o ?_;unfold Wp.v;exact G6 h O rfl Hs O hl hR
def uQ (H:Hw)(t:Nat):Ph->Prop
 | .take k=>k<H.tb.length/\∀y l,Ka (H.cls k) ((H.kI t).li k)=(some y,l)->iO y
 | .cN k _=>k<H.tb.length/\(Z7 (H.eN t) (k:Int)=0->YM (H.eN t) (k:Int)≠[])
 | .cP _ _=>True
 | .grow _ _=>True
 | .fill=>∃k x xs r,(H.kI t).bP=(k,x::xs)::r/\k<H.tb.length/\iO x/\((H.kI t).li k).os.length+xs.length<=256
 | .eR m=>Z6 (H.eN t) H.sp (m:Int) 1<=1000000
 | .find x=>iO x/\(bV H.live x=none->∀A∈H.bT,jb A)/\∀b,bV H.live x=some b->0<=x
 | .put k _=>k<H.tb.length/\(H.kI t).bP≠[]
 | .back=>∃k xs r,(H.kI t).bP=(k,xs)::r/\(∀x∈xs,iO x/\0<=YK H.bT x)/\xs.length<=1000000
 | .dI _ a=>0<=a/\a.toNat<H.bT.length/\∀A∈H.bT,∀r∈A.runs,r.1<=1000000
 | .drain=>True
def P8 (σ:Hp)(F:Rg)(L:dR)(o:sL)(R:Value->Int->Int->Hp->Prop):Prop:=∀σ' ts',Ext F σ σ'->HH σ' (Grow F σ) {L with ts:=ts'} o.1->R (nv o.2.1) o.2.2.1 o.2.2.2 σ'
end Go.Ar