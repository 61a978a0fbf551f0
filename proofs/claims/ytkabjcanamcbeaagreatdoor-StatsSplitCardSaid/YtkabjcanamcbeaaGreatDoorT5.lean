/- Texts joined. -/
import Derived.Test.YtkabjcanamcbeaaGreatDoorT4
set_option linter.unusedVariables false
set_option linter.unusedSimpArgs false
namespace Go.Ar
open Go Go.Vc Go.Proofs
variable {σ:Hp}
theorem JP:∀(xs:List (Int×Int×Int)),vJ xs=true↔∀(i:Nat) a b,xs[i]?=some a->xs[i+1]?=some b->a.1<b.1
 | []=>by simp[vJ]
 | [x]=>by simp[vJ]
 | x::y::l=>by
  have ih:=JP (y::l);show(decide (x.1<y.1)&&vJ (y::l))=true↔_;rw[zF,ih,zR];constructor
  ·rintro⟨h1,h2⟩ i a b e d;cases i with
   | zero=>simp at e d;subst e;subst d;exact h1
   | succ i=>exact h2 i a b (by simpa using e) (by simpa using d)
  ·intro h;exact⟨h 0 x y rfl rfl,λi a b e d=>h (i+1) a b (by simpa using e) (by simpa using d)⟩
theorem QA (xs:List (Int×Int×Int)):Qq xs=true↔1<=xs.length/\xs.length<=40/\(∀(i:Nat) t,xs[i]?=some t->UH t.1 t.2.1 t.2.2=true)/\∀(i:Nat) a b,xs[i]?=some a->xs[i+1]?=some b->a.1<b.1:=by
 unfold Qq;simp only[zF,zR,JP,kR];constructor
 ·rintro⟨h1,h2,h3,h4⟩;exact⟨h1,h2,λi t d=>h3 t (zE d),h4⟩
 ·rintro⟨h1,h2,h3,h4⟩;exact⟨h1,h2,λt d=>by obtain⟨i,e⟩:=zL d;exact h3 i t e,h4⟩
theorem Hq {s:Sl}{xs:List (Int×Int×Int)}(ha:gK σ s xs){R:aO}(hR:∀σ',bO σ σ'->R (Qq xs) σ'):ZK.c s σ R:=by
 refine ZK.o ?_;have L:∀σ',bO σ σ'->¬(1<=xs.length/\xs.length<=40/\(∀(i:Nat) t,xs[i]?=some t->UH t.1 t.2.1 t.2.2=true)/\∀(i:Nat) a b,xs[i]?=some a->xs[i+1]?=some b->a.1<b.1)->R false σ':=λσ' e hn=>by
  have:=hR σ' e;have hf:Qq xs=false:=by rw[←rR,QA];exact hn
  rw[hf]at this;exact this
 have W:=ha.1;refine bY.intro (cH (λc1=>cJ rfl (L σ (Ext.refl _ _) λh=>O)) λc1=>?_);refine cH (λc2=>L σ (Ext.refl _ _) λh=>O) λc2=>?_;refine ZP (a:=bN) (λ(t:Int) v=>∃i:Nat,t=(i:Int)/\i<=xs.length/\bO σ v/\(∀(j:Nat) t,j<i->xs[j]?=some t->UH t.1 t.2.1 t.2.2=true)/\∀(j:Nat) a b,j+1<i->xs[j]?=some a->xs[j+1]?=some b->a.1<b.1) (λt _=>xs.length-t.toNat)
  ⟨0,rfl,O,Ext.refl _ _,λj t h=>O,λj a b h=>O⟩ ?_
 rintro t v ⟨i,rfl,S,e,Z,Y⟩;have M:=YR ha e;refine cH (λhlt=>?_) λhge=>?_
 ·have U:i<xs.length:=by omega
  have B:xs[i]?=some xs[i]:=cL U;generalize xs[i]=r at B;obtain⟨x,y,z⟩:=r;refine Hj M B ?_;refine nw (cs:=[.int .i64 0,.int .i64 0,.int .i64 0]) λv2 hz2 e2 b2=>b2.s1 aA λv3 o3 b3=>b3.s1 aA λv4 o4 b4=>b4.s1 aA λv5 o5 K=>?_;have e5:bO v v5:=Ext.fresh (Ext.fresh (Ext.fresh e2 o3.ext λi S=>O) o4.ext λi S=>O) o5.ext λi S=>by omega
  refine Jn.intro ⟨(· = v5),rfl,⟨x,λm E=>by rw[E,add_lit,K.cell];rfl,⟨y,λm E=>by rw[E,add_lit,K.cell];rfl,⟨z,λm E=>by rw[E,add_lit,K.cell];rfl,?_⟩⟩⟩⟩;refine Cg x y z λv7 X=>?_;have w:=(Ext.trans e e5).trans X;have C:(UH x y z=false\/∃a,0<i/\xs[i-1]?=some a/\x<=a.1)->R false v7:=λN=>L v7 w λJ=>by
   rcases N with N|⟨a,H,hb1,hb2⟩
   ·have:=J.2.2.1 i _ B;simp only at this;rw[N]at this;cases this
   ·have:=J.2.2.2 (i-1) a (x,y,z) hb1 (by rw[show i-1+1=i by omega];exact B);simp only at this;omega
  cases hc:UH x y z
  ·exact cJ rfl (cJ rfl (C (.inl hc)))
  ·have next:(∀a,0<i->xs[i-1]?=some a->a.1<x)->Ar .i64 ((i:Int)+1) λg=>(∃i:Nat,g=(i:Int)/\i<=xs.length/\bO σ v7/\(∀(j:Nat) t,j<i->xs[j]?=some t->UH t.1 t.2.1 t.2.2=true)/\∀(j:Nat) a b,j+1<i->xs[j]?=some a->xs[j+1]?=some b->a.1<b.1)/\xs.length-g.toNat<xs.length-(i:Int).toNat:=by
    intro H;refine bZ (m:=i+1) O O ⟨⟨i+1,rfl,O,w,λj t hj A=>?_,λj a b hj u d=>?_⟩,O⟩
    ·by_cases hji:j=i
     ·subst hji;rw[B]at A;cases A;exact hc
     ·exact Z j t O A
    ·by_cases hji:j+1=i
     ·subst hji;rw[B]at d;cases d;exact H a O u
     ·exact Y j a b O u d
   refine cF rfl (cH (λH=>?_) λH=>cF rfl (next λa jZ=>O))
   have p:xs[i-1]?=some (xs[i-1]' O):=cL _;generalize xs[i-1]' O=r at p;obtain⟨Q,y',z'⟩:=r;have G:=YR ha w;obtain⟨b,o,g1,g2,g3,g4,g5⟩:=G.2 (i-1) Q y' z' p;have V:=X.cA K id;refine bZ (m:=i-1) O O ?_;rw[g1];refine ix O O ?_;have D:cell v7 ⟨b,o+(((i-1:Nat):Int)).toNat*3+0,none⟩=some (.int .i64 Q):=by simpa using g3
   have fin:If (decide (x<=Q)) (R false v7) (Ar .i64 ((i:Int)+1) λg=>(∃i:Nat,g=(i:Int)/\i<=xs.length/\bO σ v7/\(∀(j:Nat) t,j<i->xs[j]?=some t->UH t.1 t.2.1 t.2.2=true)/\∀(j:Nat) a b,j+1<i->xs[j]?=some a->xs[j+1]?=some b->a.1<b.1)/\xs.length-g.toNat<xs.length-(i:Int).toNat):=by
    refine cH (λP=>C (.inr ⟨_,O,p,P⟩)) λhgt=>next λa _ F=>?_
    rw[p]at F;cases F;simp only;omega
   rw[add_lit b o];exact⟨V.rI rfl (dJ D fin),dJ D (V.rI rfl fin)⟩
 ·have:i=xs.length:=by omega
  subst this;have J:Qq xs=true:=(QA xs).2 ⟨O,O,λi t A=>Z i t (cS.1 A).1 A,λi a b u d=>Y i a b (cS.1 d).1 u d⟩;have:=hR v e;rw[J]at this;exact this
end Go.Ar
namespace Go.Ar
open Go Go.Vc Go.Proofs
open Go.Bu (Zi QR Zz iX)
variable {σ:Hp}{F H:Rg}{p hs:Nat}{A:AR}{sp:Sp}{Y:Lay}{T:Nat->Hp->Rg->Prop}
open Classical in
theorem _root_.Go.Vc.Sep.put {L:Type}{C C':L->Hp->Rg->Prop}{σ:Hp}{F G:Rg}(hC:∀i,dR (C i))(h:Sep C σ F)(i:L)(hd:∀b,G b->¬F b)(hj:∀j,j≠i->C' j=C j)(hi:C' i σ G)(hL:dR (C' i)):Sep C' σ λb=>F b\/G b:=by
 obtain⟨ρ,h⟩:=h;refine⟨λb=>if G b then i else ρ b,λj=>?_⟩
 by_cases hji:j=i
 ·subst hji;exact hL.mono hi λb _ d=>⟨.inr d,zB d⟩
 ·rw[hj j hji];refine(hC j).mono (h j) λb _ a=>⟨.inl a.1,?_⟩;show(if G b then i else ρ b)=j
  rw[zA λe=>hd b e a.1];exact a.2
def gL (A:AR)(Y:Lay)(T:Nat->Hp->Rg->Prop)(cs:List Value):Lb->Hp->Rg->Prop
 | .hd=>iH Y.p cs
 | i=>AC A Y T i
theorem gL.loc {cs:List Value}(hT:∀k,dR (T k)):∀i,dR (gL A Y T cs i)
 | .hd=>iH.loc _ _
 | .dF=>AC.loc (A:=A) (Y:=Y) hT .dF
 | .free=>AC.loc (A:=A) (Y:=Y) hT .free
 | .m4=>AC.loc (A:=A) (Y:=Y) hT .m4
 | .own=>AC.loc (A:=A) (Y:=Y) hT .own
 | .dH=>AC.loc (A:=A) (Y:=Y) hT .dH
 | .cM=>AC.loc (A:=A) (Y:=Y) hT .cM
 | .runs=>AC.loc (A:=A) (Y:=Y) hT .runs
 | .cC k=>AC.loc (A:=A) (Y:=Y) hT (.cC k)
 | .cE k=>AC.loc (A:=A) (Y:=Y) hT (.cE k)
theorem TJ:gL A Y T (lq Y)=AC A Y T:=by
 funext i;cases i<;>rfl
theorem Lx {cs:List Value}(hT:∀k,dR (T k))(h:Sep (gL A Y T cs) σ F)(hlen:A.cC.length<=Y.fJ.length)(hl:Y.fJ.length<=40){vb cp ty:Nat}(hb:bW σ vb [.pointer (some ⟨cp,0,none⟩)])(hvb:¬F vb){K:Sl->Hp->Prop}
 (hK:∀s' σ',Ext F σ σ'->Sep (gL A {Y with dH:=s',fJ:=Y.fJ++[cp]} T cs) σ' (Grow F σ)->K s' σ'):App Y.dH 1 8 ty [.pointer none] ⟨some ⟨vb,0,none⟩,1,1⟩ σ K:=by
 obtain⟨G,g,d,_,a⟩:=h.kB (gL.loc hT) .dH;have d:bR Y.dH 1 (eY Y.fJ) σ G:=d;have p:Y.dH.len=Y.fJ.length:=by have:=d.1;simp[eY]at this;omega
 refine d.app (ys:=[.pointer (some ⟨cp,0,none⟩)]) rfl rfl ?_ (by simp[dM]) aC aC n4 λs' σ' r e i=>hK s' σ' (e.sub g) ?_
 ·intro j u hu;rw[add_lit,zG,hb.cell];exact hu
 refine(Sep.loc (gL.loc hT)).mono (a σ' (gL A {Y with dH:=s',fJ:=Y.fJ++[cp]} T cs) (Grow G σ) (λj m=>?_) e (λb hb=>hb) ?_ (gL.loc hT _)) λb _ hb=>Ha g (λb hb=>hb) b hb
 ·cases j<;>first|rfl|exact absurd rfl m|skip
  rename_i k;show kx (Y.fJ++[cp])[k]? A.tb[k]? A.cC[k]?=kx Y.fJ[k]? A.tb[k]? A.cC[k]?;rcases mw k Y.fJ.length with h1|h1
  ·rw[zg h1]
  ·have:A.cC[k]?=none:=zX O;rw[this]
   funext σ F
   unfold kx;cases(Y.fJ++[cp])[k]?<;>cases Y.fJ[k]?<;>cases A.tb[k]?<;>rfl
 ·show bR s' 1 (eY (Y.fJ++[cp])) σ' (Grow G σ);have:eY (Y.fJ++[cp])=eY Y.fJ++[.pointer (some ⟨cp,0,none⟩)]:=by simp[eY]
  rw[this];exact i
theorem Sc (hlen:A.cE.length<=Y.gC.length)(tp:Nat)(s':Sl):cG A {Y with cM:=s',gC:=Y.gC++[tp]}=cG A Y:=by
 funext k
 unfold cG;simp only;rcases mw k Y.gC.length with h1|h1
 ·rw[zg h1]
 ·have:A.cE[k]?=none:=zX O;rw[this]
  funext σ F
  unfold lJ;cases(Y.gC++[tp])[k]?<;>cases Y.gC[k]?<;>cases A.tb[k]?<;>rfl
theorem Ij {cs:List Value}(h:Sep (gL A Y (cG A Y) cs) σ F)(hlen:A.cE.length<=Y.gC.length)(hl:Y.gC.length<=40){vb tp ty:Nat}(hb:bW σ vb [.pointer (some ⟨tp,0,none⟩)])(hvb:¬F vb){K:Sl->Hp->Prop}
 (hK:∀s' σ',Ext F σ σ'->Sep (gL A {Y with cM:=s',gC:=Y.gC++[tp]} (cG A {Y with cM:=s',gC:=Y.gC++[tp]}) cs) σ' (Grow F σ)->K s' σ'):App Y.cM 1 8 ty [.pointer none] ⟨some ⟨vb,0,none⟩,1,1⟩ σ K:=by
 have g:∀k,dR (cG A Y k):=λk=>cG.loc k;obtain⟨G,i,d,_,a⟩:=h.kB (gL.loc g) .cM;have d:bR Y.cM 1 (eY Y.gC) σ G:=d;have s:Y.cM.len=Y.gC.length:=by have:=d.1;simp[eY]at this;omega
 refine d.app (ys:=[.pointer (some ⟨tp,0,none⟩)]) rfl rfl ?_ (by simp[dM]) aC aC n4 λs' σ' m e p=>hK s' σ' (e.sub i) ?_
 ·intro j u hu;rw[add_lit,zG,hb.cell];exact hu
 rw[Sc hlen];refine(Sep.loc (gL.loc g)).mono (a σ' (gL A {Y with cM:=s',gC:=Y.gC++[tp]} (cG A Y) cs) (Grow G σ) (λj r=>?_) e (λb hb=>hb) ?_ (gL.loc g _)) λb _ hb=>Ha i (λb hb=>hb) b hb
 ·cases j<;>first|rfl|exact absurd rfl r
 ·show bR s' 1 (eY (Y.gC++[tp])) σ' (Grow G σ);have:eY (Y.gC++[tp])=eY Y.gC++[.pointer (some ⟨tp,0,none⟩)]:=by simp[eY]
  rw[this];exact p
theorem FZ {cs:List Value}(hT:∀k,dR (T k))(h:Sep (gL A Y T cs) σ F){i:Nat}{v:Value}(hi:i<cs.length){K:aP}(hK:∀σ',Ext F σ σ'->Sep (gL A Y T (cs.set i v)) σ' F->K σ'):dG (Addr.add ⟨Y.p,0,none⟩ i) v σ K:=by
 obtain⟨G,g,d,_,e⟩:=h.kB (gL.loc hT) .hd;have d:iH Y.p cs σ G:=d;refine d.2.s1 O λσ' o b=>hK σ' (o.ext.sub λb a=>by subst a;exact g _ d.1) ?_;rw[zG]at b;refine(Sep.loc (gL.loc hT)).mono (e σ' (gL A Y T (cs.set i v)) G (λj m=>?_) (o.ext.sub λb a=>by subst a;exact d.1) (λb a=>.inl a) ⟨d.1,b⟩ (gL.loc hT _)) λb _ a=>AK g (λb a=>a) b a;cases j<;>first|rfl|exact absurd rfl m
theorem nh {cs:List Value}(h:Sep (gL A Y T cs) σ F):bW σ Y.p cs/\F Y.p:=by
 obtain⟨G,d,b,a⟩:=h.get .hd;exact⟨a,d _ b⟩
theorem SS {cs:List Value}{i cp tp:Nat}{c:bX}{ss:List cI}{t:fU}{ps:List (Nat×Nat)}{Gc Gt:Rg}(h:Sep (gL A Y (cG A Y) cs) σ F)(hlc:A.cC.length=i)(hlt:A.cE.length=i)(hcp:Y.fJ[i]?=some cp)(htp:Y.gC[i]?=some tp)(hc:A.tb[i]?=some c)
 (hC:fC σ Gc cp c ps ss) (hTf:iA σ Gt tp c.batch A.room t) (d1:∀b,Gc b->¬F b) (d2:∀b,Gt b->¬F b) (d3:∀b,Gc b->¬Gt b) :
 Sep (gL {A with cC:=A.cC++[ss],cE:=A.cE++[t]} Y (cG {A with cC:=A.cC++[ss],cE:=A.cE++[t]} Y) cs) σ λb=>(F b\/Gc b)\/Gt b:=by
 have p:∀k,dR (cG A Y k):=λk=>cG.loc k;have u:Sep (gL {A with cC:=A.cC++[ss]} Y (cG A Y) cs) σ λb=>F b\/Gc b:=by
  refine h.put (gL.loc p) (.cC i) d1 (λj d=>?_) ?_ (gL.loc p _)
  ·cases j<;>first|rfl|skip
   rename_i k;have m:k≠i:=λe=>d (by rw[e]);show kx Y.fJ[k]? A.tb[k]? (A.cC++[ss])[k]?=kx Y.fJ[k]? A.tb[k]? A.cC[k]?;rcases mw k i with h2|h2
   ·rw[zg O]
   ·have r:(A.cC++[ss])[k]?=none:=zX (by rw[zJ,sI];omega);have g:A.cC[k]?=none:=zX O;rw[r,g]
  ·show kx Y.fJ[i]? A.tb[i]? (A.cC++[ss])[i]? σ Gc;rw[hcp,hc,zi O,hlc,pW];exact⟨ps,hC⟩
 refine u.put (gL.loc p) (.cE i) (λb s a=>?_) (λj d=>?_) ?_ (gL.loc (λk=>cG.loc k) _)
 ·rcases a with a|a
  ·exact d2 b s a
  ·exact d3 b a s
 ·cases j<;>first|rfl|skip
  rename_i k;have m:k≠i:=λe=>d (by rw[e]);show lJ Y.gC[k]? A.tb[k]? A.room (A.cE++[t])[k]?=lJ Y.gC[k]? A.tb[k]? A.room A.cE[k]?;rcases mw k i with h2|h2
  ·rw[zg O]
  ·have r:(A.cE++[t])[k]?=none:=zX (by rw[zJ,sI];omega);have g:A.cE[k]?=none:=zX O;rw[r,g]
 ·show lJ Y.gC[i]? A.tb[i]? A.room (A.cE++[t])[i]? σ Gt;rw[htp,hc,zi O,hlt,pW];exact hTf
open Classical in
noncomputable def j6 {L:Type}(C:L->Hp->Rg->Prop)(S:L->Prop)(i:L):Hp->Rg->Prop:=if S i then C i else yl
theorem j6.loc {L:Type}{C:L->Hp->Rg->Prop}{S:L->Prop}(hC:∀i,dR (C i))(i:L):dR (j6 C S i):=by
 unfold j6;split
 ·exact hC i
 ·exact yl.loc
theorem j6.put {L:Type}{C:L->Hp->Rg->Prop}{S:L->Prop}{F G:Rg}(hC:∀i,dR (C i))(h:Sep (j6 C S) σ F)(i:L)(hd:∀b,G b->¬F b)(hi:C i σ G):Sep (j6 C λj=>S j\/j=i) σ λb=>F b\/G b:=by
 refine h.put (j6.loc hC) i hd (λj a=>?_) ?_ (j6.loc hC i)
 ·unfold j6;by_cases hS:S j
  ·rw[zB (.inl hS),zB hS]
  ·rw[zA (λh=>hS (h.resolve_right a)),zA hS]
 ·unfold j6;rw[zB (.inr rfl)];exact hi
theorem j6.all {L:Type}{C:L->Hp->Rg->Prop}{S:L->Prop}{F:Rg}(h:Sep (j6 C S) σ F)(hS:∀i,S i):Sep C σ F:=by
 have:j6 C S=C:=by
  funext i;unfold j6;rw[zB (hS i)]
 rw[this]at h;exact h
theorem j6.one {L:Type}{C:L->Hp->Rg->Prop}(S:L->Prop)(l:L)(h:∀i,S i->C i σ λ_=>False):Sep (j6 C S) σ λ_=>False:=by
 refine⟨λ_=>l,λi=>?_⟩;have:(λ(b:Nat)=>False/\l=i)=λ_=>False:=by funext b;simp
 rw[this];unfold j6;by_cases hS:S i
 ·rw[zB hS];exact h i hS
 ·rw[zA hS];trivial
theorem Jm {tb:List bX}:∀v∈gp tb,dM v=true:=by
 intro v hv;simp only[gp,rJ]at hv;obtain⟨c,_,a⟩:=hv;simp at a;rcases a with rfl|rfl|rfl<;>rfl
theorem UP {s:Sl}{xs:List (Int×Int×Int)}(ha:gK σ s xs)(hv:Qq xs=true){i:Nat}{c:bX}(hc:(xs.map Z0)[i]?=some c):xs[i]?=some ((c.size:Int),(c.aF:Int),(c.batch:Int))/\c.ok:=by
 rw[ze,qQ]at hc;obtain⟨⟨x,y,z⟩,g,rfl⟩:=hc;obtain⟨c,a,j,e,d,b⟩:=yR (((QA xs).1 hv).2.2.1 i _ g);simp only at e d b;rw[j,g,e,d,b];exact⟨rfl,a⟩
theorem V5 {s:Sl}{xs:List (Int×Int×Int)}(ha:gK σ s xs)(hv:Qq xs=true){R:Sl->Hp->Prop}(hR:∀s' σ',bO σ σ'->cP s' 3 (gp (xs.map Z0)) σ' (λb=>σ.size<=b)->R s' σ'):Wc.c s σ R:=by
 refine Wc.o ?_;have E:=(QA xs).1 hv;have y:=ha.1;have r:0<(xs.map Z0).length:=by rw[za];omega
 have D:(xs.map Z0)[0]?=some (xs.map Z0)[0]:=cL r;obtain⟨M,d,a,_⟩:=ha.2 0 _ _ _ (UP ha hv D).1;refine cF (by rw[a];rfl) (nw (cs:=[]) λv K A B=>?_);have x:=YR ha A;refine(bR.nil v (λb=>σ.size<=b) 3 (some ⟨σ.size,0,none⟩)).app (ys:=gp (xs.map Z0)) rfl (by rw[KG,za];omega) ?_ Jm aC aC O λs' G J H g=>hR s' G (Ext.fresh A H λi w=>w) ?_
 ·rw[a];intro j u hu;have m:=(cS.1 hu).1;rw[KG,za]at m;have w:j/3<(xs.map Z0).length:=by rw[za];omega
  have p:(xs.map Z0)[j/3]?=some (xs.map Z0)[j/3]:=cL w;generalize (xs.map Z0)[j/3]=c at p;have e:=HG p;obtain⟨b,o,z,_,F,L,C⟩:=x.2 (j/3) _ _ _ (UP ha hv p).1;rw[a]at z;cases z;rw[add_lit];rcases(by omega:j=3*(j/3)\/j=3*(j/3)+1\/j=3*(j/3)+2)with hj|hj|hj
  ·rw[hj]at hu;rw[e.1]at hu;cases hu;rw[show d+j=d+j/3*3 by omega];exact F
  ·rw[hj]at hu;rw[e.2.1]at hu;cases hu;rw[show d+j=d+j/3*3+1 by omega];exact L
  ·rw[hj]at hu;rw[e.2.2]at hu;cases hu;rw[show d+j=d+j/3*3+2 by omega];exact C
 ·rw[qn]at g;refine aH.mono g.fP λb _ e=>?_;rcases e with h|h
  ·exact h
  ·omega
def fG (n room:Nat)(tb:List bX):AR:={n:=n,room:=room,tb:=tb,S:=Go.Bu.iN,st:=List.replicate n 0,ow:=λ_=>0,cC:=List.replicate tb.length [],cE:=List.replicate tb.length ⟨0,[]⟩,runs:=[]}
def jL (n room:Nat)(tb:List bX)(i:Nat):AR:={fG n room tb with cC:=List.replicate i [],cE:=List.replicate i ⟨0,[]⟩}
def lN (xs:List (Int×Int×Int))(n:Nat)(room:Int):Int:=if Qq xs then(if 32<=n/\n%16=0/\0<=room/\room<=8 then 0 else 1)else 2
def S0:Lb->Prop
 | .dH | .cM | .cC _ | .cE _=>True
 | _=>False
theorem EU {i cp tp:Nat}{c:bX}{ss:List cI}{t:fU}{ps:List (Nat×Nat)}{Gc Gt:Rg}{dH cM:Sl}(hpos:Y.fJ.length=i/\Y.gC.length=i)
 (h:Sep (gL A {Y with dH:=dH,cM:=cM,fJ:=Y.fJ++[cp],gC:=Y.gC++[tp]} (cG A {Y with dH:=dH,cM:=cM,fJ:=Y.fJ++[cp],gC:=Y.gC++[tp]}) (lq Y)) σ F)
 (hlc:A.cC.length=i) (hlt:A.cE.length=i) (hc:A.tb[i]?=some c) (hC:fC σ Gc cp c ps ss) (hTf:iA σ Gt tp c.batch A.room t) (d1:∀b,Gc b->¬F b) (d2:∀b,Gt b->¬F b) (d3:∀b,Gc b->¬Gt b) {K:aP}
 (hK:∀σ' Y',Ext F σ σ'->Y'.p=Y.p->Y'.hs=Y.hs->Y'.fJ.length=i+1->Y'.gC.length=i+1->Sep (gL {A with cC:=A.cC++[ss],cE:=A.cE++[t]} Y' (cG {A with cC:=A.cC++[ss],cE:=A.cE++[t]} Y') (lq Y')) σ' (λb=>(F b\/Gc b)\/Gt b)->K σ') :
 bQ (some ⟨Y.p,0,none⟩) λa93=>dG (a93.add 5) (.slice dH.a dH.len dH.cap) σ λv25=>bQ (some ⟨Y.p,0,none⟩) λa95=>dG (a95.add 6) (.slice cM.a cM.len cM.cap) v25 K:=by
 have s:∀k,dR (cG A {Y with dH:=dH,cM:=cM,fJ:=Y.fJ++[cp],gC:=Y.gC++[tp]} k):=λk=>cG.loc k;refine aG (FZ (Y:={Y with dH:=dH,cM:=cM,fJ:=Y.fJ++[cp],gC:=Y.gC++[tp]}) s h (i:=5) (by simp[lq]) λz r u=>aG (FZ (Y:={Y with dH:=dH,cM:=cM,fJ:=Y.fJ++[cp],gC:=Y.gC++[tp]}) s u (i:=6) (by simp[lq]) λx g w=>?_));have j:=(fC.loc (c:=c) (ps:=ps) (ss:=ss) (p:=cp)).bU ((fC.loc (c:=c) (ps:=ps) (ss:=ss) (p:=cp)).bU hC r λb _ e d=>d1 b e d) g λb _ e d=>d1 b e d;have m:=(iA.loc (p:=tp) (batch:=c.batch) (room:=A.room) (t:=t)).bU ((iA.loc (p:=tp) (batch:=c.batch) (room:=A.room) (t:=t)).bU hTf r λb _ e d=>d2 b e d) g λb _ e d=>d2 b e d;have y:=SS (cp:=cp) (tp:=tp) w hlc hlt (by simp only;rw[zi O,hpos.1,pW];rfl) (by simp only;rw[zi O,hpos.2,pW];rfl) hc j m d1 d2 d3;exact hK x {Y with dH:=dH,cM:=cM,fJ:=Y.fJ++[cp],gC:=Y.gC++[tp]} (r.trans g) rfl rfl (by simp[hpos.1]) (by simp[hpos.2]) y
theorem ry {cs:List Value}{σ':Hp}(hT:∀k,dR (T k))(h:Sep (gL A Y T cs) σ F)(e:bO σ σ'):Sep (gL A Y T cs) σ' F:=(Sep.loc (gL.loc hT)).bK h e
theorem JF {cs:List Value}(hT:∀k,dR (T k))(h:Sep (gL A Y T cs) σ F):Sep (gL A Y T cs) σ (Cut F σ):=(Sep.loc (gL.loc hT)).cut h
theorem Pb (n room:Nat)(tb:List bX)(i:Nat):({jL n room tb i with cC:=(jL n room tb i).cC++[[]],cE:=(jL n room tb i).cE++[⟨0,[]⟩]}:AR)=jL n room tb (i+1):=by
 unfold jL;simp only[←xr]
theorem Wlt (n room:Nat)(tb:List bX):jL n room tb tb.length=fG n room tb:=rfl
theorem WpH {i cp tp:Nat}{c:bX}{ss:List cI}{t:fU}{ps:List (Nat×Nat)}{Gc Gt:Rg}{z:Nat}(hF:∀b,F b->z<=b/\b<σ.size)(hpos:Y.fJ.length=i/\Y.gC.length=i)(hi:i<40)
 (h:Sep (gL A Y (cG A Y) (lq Y)) σ F) (hlc:A.cC.length=i) (hlt:A.cE.length=i) (hc:A.tb[i]?=some c) (hC:fC σ Gc cp c ps ss) (hTf:iA σ Gt tp c.batch A.room t) (d1:∀b,Gc b->¬F b/\z<=b/\b<σ.size) (d2:∀b,Gt b->¬F b/\z<=b/\b<σ.size) (d3:∀b,Gc b->¬Gt b) {J4:aP}
 (hK:∀σ' Y',Ext F σ σ'->Y'.p=Y.p->Y'.hs=Y.hs->Y'.fJ.length=i+1->Y'.gC.length=i+1->Sep (gL {A with cC:=A.cC++[ss],cE:=A.cE++[t]} Y' (cG {A with cC:=A.cC++[ss],cE:=A.cE++[t]} Y') (lq Y')) σ' (λb=>z<=b)->J4 σ') :
 dW σ λS=>bQ (some ⟨Y.p,0,none⟩) λa80=>gT S .s (a80.add 5) λ(t82:Sl)=>bQ (some ⟨Y.p,0,none⟩) λa87=>gT S .s (a87.add 6) λ(t89:Sl)=>
  (Nw (.cells #[.pointer (some ⟨cp,0,none⟩)] 178 (0,0)) σ λn84 v21=>And (S v21) <|
   (App t82 1 8 178 [.pointer none] ⟨some n84,1,1⟩ v21 λt85 v22=>And (S v22)<|Nw (.cells #[.pointer (some ⟨tp,0,none⟩)] 180 (0,0)) v22 λn91 v23=>And (S v23)<|App t89 1 8 180 [.pointer none] ⟨some n91,1,1⟩ v23 λt92 v24=>And (S v24) <|
   bQ (some ⟨Y.p,0,none⟩) λa93=>dG (a93.add 5) (.slice t85.a t85.len t85.cap) v24 λv25=>bQ (some ⟨Y.p,0,none⟩) λa95=>dG (a95.add 6) (.slice t92.a t92.len t92.cap) v25 λv26=>J4 v26) ∧
   (Nw (.cells #[.pointer (some ⟨tp,0,none⟩)] 180 (0,0)) v21 λn911 v27=>And (S v27)<|App t82 1 8 178 [.pointer none] ⟨some n84,1,1⟩ v27 λt851 v28=>And (S v28)<|App t89 1 8 180 [.pointer none] ⟨some n911,1,1⟩ v28 λt921 v29=>And (S v29) <|
   bQ (some ⟨Y.p,0,none⟩) λa931=>dG (a931.add 5) (.slice t851.a t851.len t851.cap) v29 λv30=>bQ (some ⟨Y.p,0,none⟩) λa951=>dG (a951.add 6) (.slice t921.a t921.len t921.cap) v30 λv31=>J4 v31)) ∧
  (Nw (.cells #[.pointer (some ⟨tp,0,none⟩)] 180 (0,0)) σ λn912 v32=>And (S v32)<|Nw (.cells #[.pointer (some ⟨cp,0,none⟩)] 178 (0,0)) v32 λn841 v33=>And (S v33) <|
  App t82 1 8 178 [.pointer none] ⟨some n841,1,1⟩ v33 λt852 v34=>And (S v34)<|App t89 1 8 180 [.pointer none] ⟨some n912,1,1⟩ v34 λt922 v35=>And (S v35) <|
  bQ (some ⟨Y.p,0,none⟩) λa932=>dG (a932.add 5) (.slice t852.a t852.len t852.cap) v35 λv36=>bQ (some ⟨Y.p,0,none⟩) λa952=>dG (a952.add 6) (.slice t922.a t922.len t922.cap) v36 λv37=>J4 v37):=by
 have G:∀k,dR (cG A Y k):=λk=>cG.loc k;have ad:=fC.loc (c:=c) (ps:=ps) (ss:=ss) (p:=cp);have ab:=iA.loc (p:=tp) (batch:=c.batch) (room:=A.room) (t:=t);refine⟨λm=>bW m Y.p (lq Y),(nh h).1,aG ⟨Y.dH,λm hm=>by rw[add_lit,hm.cell];rfl,aG ⟨Y.cM,λm hm=>by rw[add_lit,hm.cell];rfl,?_⟩⟩⟩;have D:∀(w:Hp) (F1:Rg) (b1 b2:Nat),bO σ w->(∀b,F1 b->F b)->Sep (gL A Y (cG A Y) (lq Y)) w F1->bW w b1 [.pointer (some ⟨cp,0,none⟩)]->bW w b2 [.pointer (some ⟨tp,0,none⟩)]->σ.size<=b1->σ.size<=b2 →
  App Y.dH 1 8 178 [.pointer none] ⟨some ⟨b1,0,none⟩,1,1⟩ w λt85 v28=>And (bW v28 Y.p (lq Y))<|App Y.cM 1 8 180 [.pointer none] ⟨some ⟨b2,0,none⟩,1,1⟩ v28 λt92 v29=>And (bW v29 Y.p (lq Y)) <|
   bQ (some ⟨Y.p,0,none⟩) λa93=>dG (a93.add 5) (.slice t85.a t85.len t85.cap) v29 λv30=>bQ (some ⟨Y.p,0,none⟩) λa95=>dG (a95.add 6) (.slice t92.a t92.len t92.cap) v30 λv31=>J4 v31:=by
  intro w F1 b1 b2 ew hF1 hw hb1 hb2 hz1 hz2;have y:∀b,F1 b->z<=b/\b<σ.size:=λb d=>hF b (hF1 b d);have hsw:=ew.1;refine Lx G hw O O hb1 (λg=>by have:=y _ g;omega) λs1 v28 J X=>?_;have aa:=(nh X).1;have M:Sep (gL A {Y with dH:=s1,fJ:=Y.fJ++[cp]} (cG A {Y with dH:=s1,fJ:=Y.fJ++[cp]}) (lq Y)) v28 (Grow F1 w):=X;refine⟨aa,?_⟩;have c28:Sep (gL A {Y with dH:=s1,fJ:=Y.fJ++[cp]} (cG A {Y with dH:=s1,fJ:=Y.fJ++[cp]}) (lq Y)) v28 (λb=>F1 b\/w.size<=b):=M;have Q:=J.cA hb2 λg=>by have:=y _ g;omega
  have hb2lt:=hb2.lt;refine Ij c28 aC aC Q (λg=>by
   rcases g with g|g
   ·have:=y _ g;omega
   ·omega) λs2 v29 e29 N=>?_
  refine⟨(nh N).1,?_⟩;have E:∀b,(F1 b\/w.size<=b)->F b\/σ.size<=b:=λb d=>by
   rcases d with d|d
   ·exact .inl (hF1 b d)
   ·exact .inr O
  have j:Ext F σ v29:=((bO.to ew).trans (J.sub hF1)).fE e29 E;have K:=ad.bU hC j λb _ d g=>(d1 b d).1 g;have R:=ab.bU hTf j λb _ d g=>(d2 b d).1 g;have hs28:=J.1;refine EU (F:=Grow (λb=>F1 b\/w.size<=b) v28) hpos N hlc hlt hc K R (λb d g=>?_) (λb d g=>?_) d3 λw2 Y' e2 p1 p2 p3 p4 h2=>?_
  ·have:=d1 b d;rcases g with(g|g)|g
   ·exact this.1 (hF1 b g)
   ·omega
   ·omega
  ·have:=d2 b d;rcases g with(g|g)|g
   ·exact this.1 (hF1 b g)
   ·omega
   ·omega
  ·refine hK w2 Y' (j.fE e2 λb d=>?_) p1 p2 p3 p4 ((Sep.loc (gL.loc (λk=>cG.loc k))).mono h2 λb _ d=>?_)
   ·rcases d with(d|d)|d
    ·exact .inl (hF1 b d)
    ·exact .inr O
    ·exact .inr O
   ·have hz0:z<=σ.size:=by have:=(d1 _ hC.fp);omega
    rcases d with(((d|d)|d)|d)|d
    ·exact(y b d).1
    ·omega
    ·omega
    ·exact(d1 b d).2.1
    ·exact(d2 b d).2.1
 have S0:∀{w:Hp},bO σ w->bW w Y.p (lq Y):=λe=>e.cA (nh h).1 id;refine⟨nw (cs:=[.pointer (some ⟨cp,0,none⟩)]) λv21 z21 u W=>⟨S0 u,?_,?_⟩,nw (cs:=[.pointer (some ⟨tp,0,none⟩)]) λv32 z32 C b32=>⟨S0 C,nw (cs:=[.pointer (some ⟨cp,0,none⟩)]) λv33 z33 B ag=>⟨S0 (Ext.trans C B),?_⟩⟩⟩
 ·-- row,box,row
  have h21:=ry G h u;refine Lx G h21 O O W (λg=>by have:=hF _ g;omega) λs1 v22 V P=>⟨(nh P).1,?_⟩;have U:Sep (gL A {Y with dH:=s1,fJ:=Y.fJ++[cp]} (cG A {Y with dH:=s1,fJ:=Y.fJ++[cp]}) (lq Y)) v22 (Grow F v21):=P;have af:=JF (λk=>cG.loc k) U;refine nw (cs:=[.pointer (some ⟨tp,0,none⟩)]) λv23 z23 H b23=>?_;have Z:=ry (λk=>cG.loc k) af H;refine⟨(nh Z).1,Ij Z aC aC b23 (λg=>by have:=g.2;omega) λs2 v24 e24 ae=>⟨(nh ae).1,?_⟩⟩;have hs22:=V.1;have hs23:=H.1;have r:∀b,Cut (Grow F v21) v22 b->F b\/σ.size<=b:=λb d=>by
   rcases d.1 with h|h
   ·exact .inl h
   ·exact .inr O
  have j:Ext F σ v24:=((((bO.to u).trans V).lX H)).fE e24 r;have L:=ad.bU hC j λb _ d g=>(d1 b d).1 g;have ac:=ab.bU hTf j λb _ d g=>(d2 b d).1 g;refine EU (F:=Grow (Cut (Grow F v21) v22) v23) hpos ae hlc hlt hc L ac (λb d g=>?_) (λb d g=>?_) d3 λw2 Y' e2 p1 p2 p3 p4 h2=>?_
  ·have:=d1 b d;rcases g with g|g
   ·rcases g.1 with g|g
    ·exact this.1 g
    ·omega
   ·omega
  ·have:=d2 b d;rcases g with g|g
   ·rcases g.1 with g|g
    ·exact this.1 g
    ·omega
   ·omega
  ·refine hK w2 Y' (j.fE e2 λb d=>?_) p1 p2 p3 p4 ((Sep.loc (gL.loc (λk=>cG.loc k))).mono h2 λb _ d=>?_)
   ·rcases d with d|d
    ·exact r b d
    ·exact .inr O
   ·have hz0:z<=σ.size:=by have:=(d1 _ hC.fp);omega
    rcases d with((d|d)|d)|d
    ·rcases r b d with h|h
     ·exact(hF b h).1
     ·omega
    ·omega
    ·exact(d1 b d).2.1
    ·exact(d2 b d).2.1
 ·-- box,row,row
  refine nw (cs:=[.pointer (some ⟨tp,0,none⟩)]) λv27 z27 x b27=>⟨S0 (Ext.trans u x),?_⟩;exact D v27 F σ.size v21.size (Ext.trans u x) (λb d=>d) (ry G (ry G h u) x) (x.cA W id) b27 (zC _) O
 ·exact D v33 F v32.size σ.size (Ext.trans C B) (λb d=>d) (ry G (ry G h C) B) ag (B.cA b32 id) O (zC _)
theorem Aw {P:Hp->Rg->Prop}(hl:dR P){a:Nat}(h:P σ λb=>a<=b):P σ λb=>a<=b/\b<σ.size:=hl.mono h λb e d=>⟨d,e⟩
theorem WoU {n room:Nat}{tb:List bX}(h1:32<=n)(h2:n<=1024)(h3:n%16=0)(h4:room<=8)(h5:1<=tb.length)(h6:tb.length<=40)(h7:∀c∈tb,c.ok)(hc:Y.fJ.length=tb.length)(ht:Y.gC.length=tb.length):eZ (fG n room tb) Y:=
 ⟨hc,ht,by simp[fG],by simp[fG],h5,h6,h1,h2,h3,by simp[fG],h4,h7⟩
theorem OW {s:Sl}{xs:List (Int×Int×Int)}(ha:gK σ s xs)(hS:dD σ H hs sp)(room:Int){R:Option Addr->Int->Hp->Prop}
 (h0:lN xs sp.st.length room≠0->∀σ',bO σ σ'->R none (lN xs sp.st.length room) σ')
 (h1:lN xs sp.st.length room=0->∀σ' Y,bO σ σ'->Y.hs=hs->cX σ' (λb=>σ.size<=b) Y (fG sp.st.length room.toNat (xs.map Z0)) (cG (fG sp.st.length room.toNat (xs.map Z0)) Y)->R (some ⟨Y.p,0,none⟩) 0 σ') :
 Q6.c s (some ⟨hs,0,none⟩) room σ R:=by
 refine Q6.o ?_;have hn2:sp.st.length<=1024:=by obtain⟨q,r,l,B,h⟩:=hS;exact h.n2
 refine Hq ha λv e=>?_;cases hv:Qq xs
 ·have e1:lN xs sp.st.length room=2:=by unfold lN;rw[hv];rfl
  have:=h0 (by rw[e1];decide) v e;rw[e1]at this;exact cJ rfl this
 have eE:lN xs sp.st.length room=if 32<=sp.st.length/\sp.st.length%16=0/\0<=room/\room<=8 then 0 else 1:=by unfold lN;rw[hv,zB rfl]
 refine cF rfl (CX (hS.bK e) ?_);have D:¬(32<=sp.st.length/\sp.st.length%16=0/\0<=room/\room<=8)->R none 1 v:=λhn=>by
  rw[zA hn]at eE;have:=h0 (by rw[eE];decide) v e;rw[eE]at this;exact this
 have tm:(((sp.st.length:Nat):Int).tmod 16)=((sp.st.length%16:Nat):Int):=by rw[Q4 O];simp
 refine bY.intro (cH (λc1=>bY.intro (cJ rfl (bY.intro (cJ rfl (cJ rfl (D O)))))) λc1=>nz aB ?_);rw[tm,DF];refine bY.intro (cN (λc2=>bY.intro (cJ rfl (cJ rfl (D (λh=>by have:=h.2.1;simp[this]at c2))))) λc2=>?_);have c2':sp.st.length%16=0:=by simpa using c2
 refine bY.intro (cH (λc3=>cJ rfl (D O)) λc3=>cH (λc4=>D O) λc4=>?_);obtain⟨W,rfl⟩:=zk (show 0<=room by omega);rw[zB O]at eE;have h1:=h1 eE;simp only[dC]at h1;have hva:=(QA xs).1 hv;have M:=YR ha e;have hn1:32<=sp.st.length:=by omega
 generalize sp.st.length=n at *;have hlen:s.len=(xs.map Z0).length:=by rw[za];exact ha.1
 have hcl:∀{σ':Hp} {i:Nat} {c:bX},gK σ' s xs->(xs.map Z0)[i]?=some c->xs[i]?=some ((c.size:Int),(c.aF:Int),(c.batch:Int))/\c.ok:=λh N=>UP h hv N;have J:1<=(xs.map Z0).length/\(xs.map Z0).length<=40:=by rw[za];omega
 refine V5 M hv λdF v5 e5 htab=>Wny λU op e6 hop hP=>ta λA z7 e7 hm=>?_;generalize htbd:xs.map Z0=tb at *;refine nw (cs:=[.slice dF.a dF.len dF.cap,.pointer (some ⟨hs,0,none⟩),.pointer none,.pointer none,.pointer (some ⟨op,0,none⟩),.slice none 0 0,.slice none 0 0,.map (some U.size)]) λv8 z8 e8 b8=>?_;refine Go.Bu.uF _ (λg=>absurd ⟨O,O⟩ g) λn' hn' _ _ v9 sb ms e9 hB hfp=>?_;have hnn:n=n':=by omega
 subst hnn;have b9:=e9.cA b8 id;refine aG (b9.s1 aA λv10 fW b10=>Nv O O c2' λQ tp tq K htp htq hTk=>aG ((K.cA b10 id).s1 aA λv12 L b12=>?_));have s5:=e5.1;have s6:=e6.1;have s9:=e9.1;have s10:=fW.1;have s11:=K.1;have s12:=L.1;have hb8:=b8.lt;have x9:Ext (· = A.size) v9 v12:=(fW.ext.trans (bO.to K)).trans L.ext;have x5:Ext (· = A.size) v5 v12:=(bO.to (Ext.trans (Ext.trans (Ext.trans e6 e7) e8) e9)).trans x9;have x6:Ext (· = A.size) U v12:=(bO.to (Ext.trans (Ext.trans e7 e8) e9)).trans x9;have x7:Ext (· = A.size) A v12:=(bO.to (Ext.trans e8 e9)).trans x9;have x11:Ext (· = A.size) Q v12:=L.ext;have p1:=aH.bU (Aw aH htab) x5 λb _ g d=>by omega
 have p2:=(jH.loc (p:=op) (ow:=λ_=>0)).bU (Aw jH.loc hP) x6 λb _ g d=>by omega
 have p3:dN v12 U.size .i64 bN []:=x7.gN (hm _ _) O;have p5:uq v8.size n Go.Bu.iN v12 (λb=>v8.size<=b/\b<v9.size):=(uq.loc _ _ _).bU (Aw (uq.loc _ _ _) ⟨sb,ms,hB,hfp⟩) x9 λb _ g d=>by omega
 have p6:nG tp (List.replicate n 0) v12 (λb=>v10.size<=b/\b<Q.size):=(nG.loc _ _).bU (Aw (nG.loc _ _) ⟨tq,hTk,htp,htq⟩) x11 λb _ g d=>by omega
 let Y0:Lay:={p:=A.size,hs:=hs,fr:=v8.size,tr:=tp,op:=op,rn:=U.size,dF:=dF,dH:=⟨none,0,0⟩,cM:=⟨none,0,0⟩,fJ:=[],gC:=[]}
 have b12':bW v12 A.size (lq Y0):=b12
 let Cf:=gL (jL n W tb 0) Y0 (cG (jL n W tb 0) Y0) (lq Y0)
 have u:∀i,dR (Cf i):=gL.loc λk=>cG.loc k;have q0:Sep (j6 Cf S0) v12 λ_=>False:=j6.one S0 .hd λi V=>by
  cases i<;>first|exact V.elim|exact bR.nil _ _ _ _|exact trivial
 have q1:=j6.put u q0 .dF (G:=λb=>v.size<=b/\b<v5.size) (λb g d=>d) p1;have q2:=j6.put u q1 .own (G:=λb=>v5.size<=b/\b<U.size) (λb g d=>by
  rcases d with d|d
  ·exact d
  ·omega) p2
 have q3:=j6.put u q2 .runs (G:=λb=>b=U.size) (λb g d=>by
  rcases d with(d|d)|d
  ·exact d
  ·omega
  ·omega) ⟨rfl,p3⟩
 have q4:=j6.put u q3 .hd (G:=λb=>b=A.size) (λb g d=>by
  rcases d with((d|d)|d)|d
  ·exact d
  ·omega
  ·omega
  ·omega) ⟨rfl,b12'⟩
 have q5:=j6.put u q4 .free (G:=λb=>v8.size<=b/\b<v9.size) (λb g d=>by
  rcases d with(((d|d)|d)|d)|d
  ·exact d
  ·omega
  ·omega
  ·omega
  ·omega) p5
 have q6:=j6.put u q5 .m4 (G:=λb=>v10.size<=b/\b<Q.size) (λb g d=>by
  rcases d with((((d|d)|d)|d)|d)|d
  ·exact d
  ·omega
  ·omega
  ·omega
  ·omega
  ·omega) p6
 have q7:Sep Cf v12 λb=>v.size<=b:=by
  refine(Sep.loc u).mono (j6.all q6 λi=>?_) λb _ d=>?_
  ·cases i<;>simp[S0]
  ·rcases d with(((((d|d)|d)|d)|d)|d)|d
   ·exact d.elim
   ·omega
   ·omega
   ·omega
   ·omega
   ·omega
   ·omega
 have e12:bO v v12:=Ext.fresh e5 x5 λi V=>by omega
 have szv:=e.1;refine ZP (a:=bN) (λ(t:Int) w=>∃(i:Nat) (Y:Lay),t=(i:Int)/\i<=tb.length/\Y.p=A.size/\Y.hs=hs/\Y.fJ.length=i/\Y.gC.length=i/\bO v w/\Sep (gL (jL n W tb i) Y (cG (jL n W tb i) Y) (lq Y)) w (λb=>v.size<=b)) (λt _=>tb.length-t.toNat)
  ⟨0,Y0,rfl,O,rfl,rfl,rfl,rfl,e12,q7⟩ ?_
 rintro t w ⟨i,Y,rfl,V,hYp,hYh,Z,X,ew,y⟩;refine cH (λhlt=>?_) λhge=>?_
 ·have hi':i<tb.length:=by omega
  have N:tb[i]?=some tb[i]:=cL hi';generalize tb[i]=c at N;have haw:=YR M ew;obtain⟨hxi,hok⟩:=hcl haw N;refine Hj haw hxi ?_;refine nw (cs:=[.int .i64 0,.int .i64 0,.int .i64 0]) λv14 hz14 e14 b14=>b14.s1 aA λv15 o15 b15=>b15.s1 aA λv16 o16 b16=>b16.s1 aA λv17 o17 b17=>?_;have S:bO w v17:=Ext.fresh (Ext.fresh (Ext.fresh e14 o15.ext λi V=>O) o16.ext λi V=>O) o17.ext λi V=>by omega
  have x:bW v17 w.size [.int .i64 (c.size:Int),.int .i64 (c.aF:Int),.int .i64 (c.batch:Int)]:=b17;refine x.rI rfl (x.rI rfl (x.rI rfl (O5 hok λv18 cp E hcp1 hcp2 hCe=>?_)));have b18:=E.cA x id;obtain⟨_,_,_,_,_,_,aa,ab⟩:=id hok;refine b18.rI rfl (Se aa ab O λv19 tp2 C htp1 htp2 hTf=>Jn.intro ?_);have s14:=S.1;have s18:=E.1;have s19:=C.1;have sw:=ew.1;have hT:∀k,dR (cG (jL n W tb i) Y k):=λk=>cG.loc k;have h19:=ry hT (ry hT (ry hT (JF hT y) S) E) C;have P:=hCe.bK C;rw[←hYp];refine WpH (F:=Cut (λb=>v.size<=b) w) (z:=v.size) (ss:=[]) (t:=⟨0,[]⟩) (λb g=>⟨g.1,by have:=g.2;omega⟩) ⟨Z,X⟩ O h19 (by simp[jL]) (by simp[jL]) N P hTf (λb g=>?_) (λb g=>?_) (λb g hb2=>O) λw2 Y' e2 y1 y2 y3 y4 h2=>?_
  ·subst g;exact⟨λd=>by have:=d.2;omega,O,O⟩
  ·subst g;exact⟨λd=>by have:=d.2;omega,O,O⟩
  ·rw[Pb]at h2;exact bZ (m:=i+1) O O ⟨⟨i+1,Y',rfl,O,y1,y2.trans hYh,y3,y4,Ext.fresh (Ext.trans (Ext.trans (Ext.trans ew S) E) C) e2 λb g=>g.1,h2⟩,O⟩
 ·have:i=tb.length:=by omega
  subst this;rw[Wlt,TJ]at y;have hl:eZ (fG n W tb) Y:=WoU hn1 hn2 c2' O J.1 J.2 (λc N=>by
   obtain⟨j,hj⟩:=zL N;exact(hcl M hj).2) Z X
  have:=h1 w Y (Ext.trans e ew) hYh ⟨hl,λk=>cG.loc k,(Sep.loc (AC.loc λk=>cG.loc k)).mono y λb _ g=>zI szv g⟩;rw[hYp]at this;exact this
end Go.Ar
namespace Go.Vc
open Go
variable {σ:Hp}{F:Rg}{s:Sl}{sz:Nat}{xs:List Value}
def dQ (s:Sl)(sz:Nat)(xs:List Value):Hp->Rg->Prop:=λh F=>xs.length=s.len*sz/\(s.len=0/\s.cap=0\/∃b o cs,F b/\s.a=some ⟨b,o,none⟩/\bW h b cs/\s.len<=s.cap/\cs.length=o+s.cap*sz/\(cs.drop o).take xs.length=xs)
theorem dQ.loc (s:Sl)(sz:Nat)(xs:List Value):dR (dQ s sz xs):=λσ g F G h d a=>by
 refine⟨h.1,h.2.imp id ?_⟩;rintro⟨b,o,cs,hq,ha,⟨e,he⟩,r⟩;have:=a b (bW.lt ⟨e,he⟩) hq;exact⟨b,o,cs,this.1,ha,⟨e,this.2.trans he⟩,r⟩
theorem dQ.nil (h:Hp)(F:Rg)(sz:Nat)(a:Option Addr):dQ ⟨a,0,0⟩ sz [] h F:=⟨by simp,.inl ⟨rfl,rfl⟩⟩
theorem bR.o (h:bR s sz xs σ F):dQ s sz xs σ F:=⟨h.1,h.2.imp id λ⟨b,e,d,g,i,a,j,m⟩=>⟨b,0,e,d,g,i,a,O,by simpa using m⟩⟩
theorem dQ.fP (h:dQ s sz xs σ F):cP s sz xs σ F:=by
 refine⟨h.1,?_⟩;rcases h.2 with⟨hl,_⟩|⟨b,o,cs,hq,ha,hb,_,_,ht⟩
 ·left;have:=h.1;rw[hl]at this;simpa using this
 ·refine .inr ⟨b,o,cs,hq,ha,hb.q,λj a=>?_⟩;rw[←ht,zY,zn,zB a]
theorem dQ.cap (h:dQ s sz xs σ F):s.len<=s.cap:=by
 rcases h.2 with⟨q1,q2⟩|⟨_,_,_,_,_,_,q,_⟩
 ·omega
 ·exact q
theorem dQ.app {x:Sl}{bytes e:Nat}{zs ys:List Value}{K:Sl->Hp->Prop}(ho:dQ s sz xs σ F)(hz:zs.length=sz)
 (hy:ys.length=x.len*sz) (hr:Rd σ x.a ys) (h1:∀v∈ys,dM v=true) (hb:(s.len+x.len)*bytes<=2^46) (hc:s.len+x.len<=2^62)
 (hx:0<x.len) (hK:∀s' h',s'.len=s.len+x.len->Ext F σ h'->dQ s' sz (xs++ys) h' (Grow F σ)->K s' h'):App s sz bytes e zs x σ K:=by
 refine⟨xs,ys,ho.1,hy,ho.fP.rd,hr,h1,hb,hc,λg=>?_,λr c p=>?_⟩
 ·rcases ho.2 with⟨hl,hcap⟩|⟨b,o,cs,hQ,ha,hk,hle,hcl,ht⟩
  ·omega
  ·rw[ha];simp only;rw[add_lit];have w:(s.len+x.len)*sz<=s.cap*sz:=lS _ g;rw[zl]at w;have d:=ho.1;refine Ug hk O λh' m i=>hK _ h' rfl (Ext.eR m hQ) ⟨?_,.inr ⟨b,o,_,.inl hQ,rfl,i,g,?_,?_⟩⟩
   ·simp[d,hy,zl]
   ·simp;omega
   ·rw[zJ,d,zr];have u:(cs.take (o+s.len*sz)++ys++cs.drop (o+s.len*sz+ys.length)).drop o=(cs.drop o).take (s.len*sz)++(ys++cs.drop (o+s.len*sz+ys.length)):=by
     rw[kF,List.drop_append_of_le_length (by rw[zO];omega),List.drop_take]
     congr 2;omega
    have j:(cs.drop o).take (s.len*sz)=xs:=by rw[←d];exact ht
    rw[u,j,←kF,pG aE,mc aE]
 ·refine hK _ _ rfl (Ext.push _ _ _) ⟨by simp[ho.1,hy,zl],.inr ⟨σ.size,0,xs++ys++(List.replicate (c-(s.len+x.len)) zs).flatten,.inr (zC _),rfl,⟨e,by simp⟩,p,?_,?_⟩⟩
  ·simp only[zJ,wa,uV,vR,ho.1,hy,hz,←zl];rw[zG];congr 1;omega
  ·rw[List.drop_zero,pG aA,mc aA]
theorem dQ.DO {x:Sl}{bytes e:Nat}{zs:List Value}{K:Sl->Hp->Prop}(ho:dQ s sz xs σ F)(hx:x.len=0)(hb:s.len*bytes<=2^46)(hc:s.len<=2^62)(hK:dQ ⟨s.a,s.len,s.cap⟩ sz xs σ F->K ⟨s.a,s.len,s.cap⟩ σ):App s sz bytes e zs x σ K:=by
 have d:=ho.cap;refine⟨xs,[],ho.1,by simp[hx],ho.fP.rd,by cases x.a<;>simp[Rd],by simp,by rw[hx];exact hb,O,λg=>?_,λb=>absurd O b⟩
 rw[hx];have:=hK ho;cases ha:s.a<;>(rw[ha]at this;exact this)
theorem dQ.from (h:dQ s sz xs σ F){lo:Nat}(h1:lo<=s.len):dQ ⟨if s.cap=lo then s.a else s.a.map (·.add (lo*sz)),s.len-lo,s.cap-lo⟩ sz (xs.drop (lo*sz)) σ F:=by
 have d:=h.1;refine⟨by rw[zt,d,Nat.sub_mul],?_⟩;rcases h.2 with⟨q1,q2⟩|⟨b,o,cs,hq,ha,hb,hle,hcl,ht⟩
 ·left;simp only;omega
 ·by_cases hm:s.cap=lo
  ·left;simp only;omega
  ·refine .inr ⟨b,o+lo*sz,cs,hq,by simp only[zA hm,ha,zh,add_lit],hb,by simp only;omega,?_,?_⟩
   ·have:lo*sz<=s.cap*sz:=lS _ O;rw[hcl,Nat.sub_mul];omega
   ·rw[zt]
    conv=>rhs;rw[←ht]
    rw[List.drop_take,List.drop_drop]
end Go.Vc
namespace Go.Ar
open Go Go.Vc Go.Proofs
variable {σ:Hp}{F G:Rg}{Y:hO}{tb:List bX}{bud:Nat}{ls:List Li}{b k:Nat}{l:Li}{c:bX}
theorem N5 {s:Sl}{xs:List (Int×Int×Int)}(ha:gK σ s xs)(dB:Int){R:Option Addr->Int->Hp->Prop}(h0:Qq xs=false->∀σ',bO σ σ'->R none 2 σ')
 (h1:Qq xs=true->¬(0<=dB/\dB<=65536)->∀σ',bO σ σ'->R none 1 σ')
 (h2:Qq xs=true->0<=dB->dB<=65536->∀σ' Y,bO σ σ'->eC σ' (λq=>σ.size<=q) Y (xs.map Z0) dB.toNat (List.replicate (xs.map Z0).length iD)->R (some ⟨Y.p,0,none⟩) 0 σ') :
 Q8.c s dB σ R:=by
 refine Q8.o ?_;refine Hq ha λv e=>?_;cases hv:Qq xs
 ·exact cJ rfl (h0 hv v e)
 refine cF rfl (bY.intro (cH (λB=>cJ rfl (h1 hv O v e)) λB=>cH (λy=>h1 hv O v e) λy=>?_));have d:=YR ha e;have C:=(QA xs).1 hv;refine V5 d hv λdF b w g=>ta λj J u D=>nw (cs:=[.slice dF.a dF.len dF.cap,.int .i64 dB,.map (some b.size)]) λv3 H m E=>?_;have s1:=w.1;have s0:=e.1;refine h2 hv O O v3 ⟨j.size,b.size,dF,[]⟩ (((e.trans w).trans u).trans m) ⟨by rw[za];omega,λc z=>?_,by simp,by simp,?_⟩
 ·obtain⟨i,A⟩:=zL z;exact(UP d hv A).2
 ·refine⟨λq=>if q=j.size then .hd else if q=b.size then .mp else .dF,λi=>?_⟩
  cases i with
  | hd=>
   refine⟨⟨by show σ.size<=j.size;omega,by simp⟩,?_⟩;have:((dB.toNat:Nat):Int)=dB:=by omega
   simp only[EO,this];exact E
  | mp=>
   refine⟨⟨by show σ.size<=b.size;omega,?_⟩,m.gN (D .i64 .p) id⟩;show(if b.size=j.size then ue.hd else if b.size=b.size then ue.mp else ue.dF)=.mp
   rw[zA O,zB rfl]
  | dF=>
   have F:=aH.bK (aH.bK (aH.mono g (G:=λq=>v.size<=q/\q<b.size) λq r x=>⟨x,r⟩) u) m;refine aH.mono F λq _ r=>⟨O,?_⟩;show(if q=j.size then ue.hd else if q=b.size then ue.mp else ue.dF)=.dF
   rw[zA O,zA O]
  | li k=>
   simp only[CC,pJ,jE,List.find?_nil,Option.map_none];cases hk:(List.replicate (xs.map Z0).length iD)[k]? with
   | none=>trivial
   | some l=>simp only[nB]at hk;split at hk<;>simp_all
def lg (f:Nat->Nat)(l:List (Int×Option Addr)):Nat:=(l.map λx=>f x.1.toNat).sum
theorem JL (f:Nat->Nat):∀{l:List (Int×Option Addr)} {n:Int} {x:Option Addr},(l.map (·.1)).Nodup->(n,x)∈l->lg f l=f n.toNat+lg f (l.filter λy=>!(y.1==n))
 | [],_,_,_,h=>by simp at h
 | y::l,n,x,hn,h=>by
  simp only[zK,zo]at hn;rcases zT.1 h with h1|h1
  ·subst h1;have:l.filter (λy=>!(y.1==n))=l:=by
    rw[ov];intro z hz;have:z.1≠n:=λe=>hn.1 (zD.2 ⟨z,hz,e⟩);simpa using this
   rw[tx aA,this];simp[lg]
  ·have a:y.1≠n:=λe=>hn.1 (zD.2 ⟨_,h1,e.symm⟩);rw[uz (by simpa using a)];have:=JL f hn.2 h1;simp only[lg,zK,zu]at *;omega
theorem Wno (n a v:Nat):((List.range n).map λj=>if j=a then v else 0).sum=if a<n then v else 0:=by
 induction n with
 | zero=>simp
 | succ n ih=>
  rw[zw,kQ,uh,ih];by_cases h:a=n
  ·subst h;simp
  ·by_cases h2:a<n
   ·rw[zB h2,zB O];simp[Ne.symm h]
   ·rw[zA h2,zA O];simp[Ne.symm h]
theorem RC (l:List Nat)(f g:Nat->Nat):(l.map λj=>f j+g j).sum=(l.map f).sum+(l.map g).sum:=by
 induction l with
 | nil=>rfl
 | cons x l ih=>simp only[zK,zu,ih];omega
theorem Ji (f:Nat->Nat)(n:Nat):∀(ps:List (Nat×Nat)),(ps.map (·.1)).Nodup->(∀x∈ps,x.1<n)->(ps.map λx=>f x.1).sum=((List.range n).map λj=>if j∈ps.map (·.1)then f j else 0).sum
 | [],_,_=>by
  have:((List.range n).map λj=>if j∈([]:List (Nat×Nat)).map (·.1)then f j else 0)=(List.range n).map λ_=>0:=by simp
  rw[this]
  induction n with
  | zero=>rfl
  | succ n a=>rw[zw,kQ,uh];simp at *;exact a
 | x::ps,hn,hl=>by
  simp only[zK,zo]at hn;have a:=Ji f n ps hn.2 λy b=>hl y (by simp[b]);rw[zK,zu,a];have e:((List.range n).map λj=>if j∈(x::ps).map (·.1)then f j else 0)=(List.range n).map λj=>(if j=x.1 then f x.1 else 0)+(if j∈ps.map (·.1)then f j else 0):=by
   apply kA;intro j _;by_cases hj:j=x.1
   ·subst hj;rw[zB aA,zB rfl,zA hn.1];rfl
   ·rw[zA hj,zG];by_cases hm:j∈ps.map (·.1)
    ·rw[zB hm,zB (by simp only[zK,zT];exact .inr hm)]
    ·rw[zA hm,zA (by simp only[zK,zT,not_or];exact⟨hj,hm⟩)]
  rw[e,RC,Wno,zB (hl x aA)]
def qx (tb:List bX)(ls:List Li)(k:Nat):Nat:=match tb[k]?,ls[k]? with
 | some c,some l=>c.size*l.os.length
 | _,_=>0
theorem Ia:∀(tb:List bX) (ls:List Li),ls.length=tb.length->QB tb ls=((List.range tb.length).map (qx tb ls)).sum
 | [],[],_=>rfl
 | c::tb,l::ls,h=>by
  have ih:=Ia tb ls (by simpa using h);simp only[QB]at ih;simp only[QB,Ek,zK,zu,zQ,ih,AB,kP];rfl
 | [],_::_,h=>by simp at h
 | _::_,[],h=>by simp at h
theorem eC.nil (h:eC σ F Y tb bud ls)(hf:jE Y.ps k=none)(hl:ls[k]?=some l):l=iD:=by
 obtain⟨G,_,a⟩:=h.sep.get (.li k);simp only[CC,pJ,hf,hl]at a;exact a
theorem eC.yd (h:eC σ F Y tb bud ls):(Y.ps.map (·.1)).Nodup:=by
 have:=h.map.nodup;have e:(kM Y.ps).map (·.1)=(Y.ps.map (·.1)).map λ(n:Nat)=>(n:Int):=by simp[kM]
 rw[e]at this;exact List.Pairwise.of_map (λ(n:Nat)=>(n:Int)) (λa b d e=>d (by rw[e])) this
theorem eC.bytes (h:eC σ F Y tb bud ls):lg (qx tb ls) (kM Y.ps)=QB tb ls:=by
 have i:lg (qx tb ls) (kM Y.ps)=(Y.ps.map λx=>qx tb ls x.1).sum:=by simp[lg,kM,Function.comp_def]
 rw[i,Ji _ tb.length _ h.yd h.keys,Ia _ _ h.len]
 congr 1
 apply kA;intro j hj;have a:=zW.1 hj;by_cases hm:j∈Y.ps.map (·.1)
 ·rw[zB hm]
 ·rw[zA hm];have d:jE Y.ps j=none:=by
   unfold jE;simp only[qX,oV,zZ];exact λx g e=>hm (zD.2 ⟨x,g,e⟩)
  have b:ls[j]?=some (ls[j]'(by rw[h.len];exact a)):=cL _;have:=h.nil d b;unfold qx;rw[cL a,b,this];rfl
theorem F3:∀(tb:List bX) (ls:List Li),(∀c∈tb,c.ok)->(∀l∈ls,fT l)->QB tb ls<=tb.length*131072
 | [],_,_,_=>by simp[QB]
 | _::_,[],_,_=>by simp[QB]
 | c::tb,l::ls,h1,h2=>by
  have ih:=F3 tb ls (λc a=>h1 c (by simp[a])) (λl d=>h2 l (by simp[d]));simp only[QB]at ih;simp only[QB,Ek,zK,zu,zQ];have a:=h1 c aA;unfold bX.ok at a;have b:=(h2 l aA).many;have e:c.size*l.os.length<=512*256:=kU O b;omega
theorem IJ (h:eC σ F Y tb bud ls)(hok:∀l∈ls,fT l):QB tb ls<=5242880:=by
 have b:=F3 tb ls h.ok hok;have a:=h.nU;omega
theorem eC.Iq (h:eC σ F Y tb bud ls):∀l∈ls,fT l:=by
 intro l hl;obtain⟨k,a⟩:=zL hl;cases hf:jE Y.ps k with
 | none=>rw[h.nil hf a];exact fT.nil
 | some b=>
  obtain⟨G,_,d,_⟩:=h.w8 hf a;exact d.2.1
theorem Bh (h:eC σ F Y tb bud ls){R:aN}(hR:∀σ',bO σ σ'->R ((QB tb ls:Nat):Int) σ'):Xx.c (aW Y.p) σ R:=by
 refine Xx.o ?_;have hle:=IJ h h.Iq;have hT:=h.bytes;refine HT h (cF rfl (aG (h.hd.rM rfl ?_)));refine uE (a:=bN) h.map (λg (z:Int) v=>∃n:Nat,z=(n:Int)/\n+lg (qx tb ls) g=QB tb ls/\(∀e∈g,e∈kM Y.ps)/\(g.map (·.1)).Nodup/\bO σ v) ?_ ?_ ?_
 ·intro v hz e;exact⟨0,rfl,by rw[hT];omega,λe he=>he,h.map.nodup,e⟩
 ·rintro z v ⟨n,rfl,E,_,_,e⟩;simp only[lg,qz,List.sum_nil,zr]at E;rw[E];exact hR v e
 ·rintro g n x z v v' J ⟨m,rfl,E,u,C,e⟩ W ho hlt hJ;have U:bO σ v':=e.only ho (.inr (zC _));have M:=h.bK U;have j:=u _ W;simp only[kM,zD,Prod.mk.injEq]at j;obtain⟨⟨k,b⟩,w,D,B⟩:=j;simp only at D B;subst D;subst B;have H:=h.keys _ w;simp only at H;have K:tb[k]?=some tb[k]:=cL H;have S:ls[k]?=some (ls[k]'(by rw[h.len];exact H)):=cL _;generalize tb[k]=c at K;generalize (ls[k]'(by rw[h.len];exact H))=l at S;have N:jE Y.ps k=some b:=F4 h.map.nodup w;obtain⟨G,hG,Z,_⟩:=M.w8 N S;obtain⟨_,hok,s,Q,P,V⟩:=Z;have L:s.len=l.os.length:=by have:=P.1;simp[Wv]at this;omega
  have hb:qx tb ls k=c.size*l.os.length:=by unfold qx;rw[K,S]
  have r:=JL (qx tb ls) C W;simp only[dC]at r;refine aG (M.hd.rS rfl (uX M.jW K (d:=0) O ?_));simp only[zV];refine aG (Q.rS rfl ?_);have A:m+c.size*l.os.length+lg (qx tb ls) (List.filter (λy=>!(y.1==(k:Int))) g)=QB tb ls:=by
   have X:=r;rw[hb]at X;rw[←E,X,qv]
  refine bZ (m:=c.size*l.os.length) (by simp only[L];simp) O (bZ (m:=m+c.size*l.os.length) O O (hJ _ v' rfl rfl ⟨_,rfl,A,λy hy=>u y (zH.1 hy).1,C.sublist (List.filter_sublist.map _),U⟩))
theorem MN (h:eC σ F Y tb bud ls){R:aO}(hR:∀σ',bO σ σ'->R (decide (bud<QB tb ls)) σ'):Yh.c (aW Y.p) σ R:=by
 refine Yh.o ?_;have e:decide (((QB tb ls:Nat):Int)>(bud:Int))=decide (bud<QB tb ls):=by rw[decide_eq_decide];omega
 refine Jn.intro (HT h (cJ rfl (aG ⟨Bh h λσ' a=>(a.cA h.hd id).rI rfl ?_,h.hd.rI rfl (Bh h λσ' a=>?_)⟩)))
 ·rw[e];exact hR σ' a
 ·rw[e];exact hR σ' a
def Di (f:bX->Li->List Int×Li)(fn:Nat):Prop:=∀{σ:Hp} {G:Rg} {b:Nat} {l:Li} {c:bX},jl b l σ G->c.ok->∀{R:Sl->Hp->Prop},
 (∀s z σ',Ext (· = b) σ σ'->σ.size<=z->bR s 1 (Wv (f c l).1) σ' (λq=>σ.size<=q/\q<z)->jl b (f c l).2 σ' (λq=>q=b\/z<=q)->R s σ') →
 V1 Tryz.prog ⟨fn,#[],#[]⟩ [.pointer (some ⟨b,0,none⟩),.int .i64 (c.batch:Int)] [.one .s] σ R
theorem PJ:Di Z2 223:=by
 intro σ G b l c h hc R hR;refine Gf (all := #[.pointer (some ⟨b,0,none⟩),.int .i64 (c.batch:Int)]) (by kernel_rfl) aA ?_;refine YN.o ?_;have j:=h;obtain⟨_,i,s,e,a,g⟩:=h;have d:s.len=l.os.length:=by have:=a.1;simp[Wv]at this;omega
 refine aG (e.rS rfl ?_);simp only[d];exact Gw j (zC _) hR
theorem NV:Di KQ 221:=by
 intro σ G b l c h hc R hR;refine Gf (all := #[.pointer (some ⟨b,0,none⟩),.int .i64 (c.batch:Int)]) (by kernel_rfl) aA ?_;refine Xz.o ?_;have M:=h;obtain⟨_,g,s,x,Q,K⟩:=h;have o1:=g.low;have o2:=g.many;have o3:=g.lim;have u:=L5 hc g;unfold bX.ok at hc;refine aG (x.rI rfl (bZ (m:=l.low+1) O O (nz aB (bZ (m:=(l.low+1)/2) (by rw[Xq O];omega) O ?_))));refine Gw M O λout z v e U S y=>?_;have J:=y;obtain⟨_,P,s1,d,p,C⟩:=y;have r:s1.len=(gS ((l.low+1)/2) l).2.os.length:=by have:=p.1;simp[Wv]at this;omega
 refine Jn.intro ?_;have rest:∀(j:Hp) (lim:Nat),Ext (· = b) v j->lim=(if l.lim>c.batch then max (l.lim-c.batch) c.batch else l.lim)->bW j b (nW s1 {(gS ((l.low+1)/2) l).2 with lim:=lim}) →
  bQ (some ⟨b,0,none⟩) λF=>jB (F.add 0) j λB=>bQ (some ⟨b,0,none⟩) λE=>dG (E.add 2) (.int .i64 ((B.len:Nat):Int)) j λv2=>R out v2:=by
  intro j lim e1 hlim a;refine aG (a.rS rfl (aG (a.s1 (by simp[nW]) λv2 o2 w=>?_)));have D:=e1.trans o2.ext;have N:=d.lt;refine hR out z v2 (e.trans D) U (aI.bU S D λq _ H L=>?_) ?_
  ·have:=x.lt;omega
  ·refine⟨.inl rfl,u,s1,?_,aH.bU p D λq _ H L=>H.2 L,C⟩;simp only[r]at w;subst hlim;exact w
 refine aG (d.rI rfl ?_);refine cH (λA=>?_) λA=>?_
 ·have i:l.lim>c.batch:=by simp only[gS]at A;omega
  refine aG (d.rI rfl (bZ (m:=l.lim-c.batch) (by simp only[gS];omega) O (aG (d.s1 (by simp[nW]) λj o1 a=>rest j (max (l.lim-c.batch) c.batch) o1.ext (by rw[zB i]) ?_))));have:(if(c.batch:Int)>((l.lim-c.batch:Nat):Int)then(c.batch:Int)else((l.lim-c.batch:Nat):Int))=((max (l.lim-c.batch) c.batch:Nat):Int):=by split<;>omega
  rw[this]at a;exact a
 ·have i:¬l.lim>c.batch:=by simp only[gS]at A;omega
  exact rest v l.lim (Ext.refl _ _) (by rw[zA i]) d
def pq (x:Nat×Sl):List Value:=[.int .i64 (x.1:Int),.slice x.2.a x.2.len x.2.cap]
def fO (l:List (Nat×Sl)):List Value:=l.flatMap pq
theorem KF (l:List (Nat×Sl)):(fO l).length=l.length*2:=by
 induction l with
 | nil=>rfl
 | cons x l ih=>
  have e:fO (x::l)=pq x++fO l:=rfl;have a:(pq x).length=2:=rfl;rw[e,zJ,ih,a,zQ];omega
theorem Hh (a b:List (Nat×Sl)):fO (a++b)=fO a++fO b:=by simp[fO]
theorem HL {l:List (Nat×Sl)}:∀v∈fO l,dM v=true:=by
 intro v hv;obtain⟨p,_,a⟩:=rJ.1 hv;simp only[pq,zT,List.not_mem_nil,or_false]at a;rcases a with rfl|rfl<;>rfl
theorem MS {l:List (Nat×Sl)}{i:Nat}{p:Nat×Sl}(h:l[i]?=some p){d:Nat}(hd:d<2):(fO l)[2*i+d]?=(pq p)[d]? := by
 induction l generalizing i with
 | nil=>simp at h
 | cons x l ih=>
  have e:fO (x::l)=pq x++fO l:=rfl;have a:(pq x).length=2:=rfl;rw[e];cases i with
  | zero=>
   simp at h;subst h;rw[zg O];congr 1;omega
  | succ i=>
   rw[zi O,a,show 2*(i+1)+d-2=2*i+d by omega];exact ih (by simpa using h)
def kW (ps:List (Nat×Sl))(bs:List Bt)(σ:Hp)(D:Rg):Prop:=ps.length=bs.length/\∀(i:Nat) p x,ps[i]?=some p->bs[i]?=some x->p.1=x.1/\cP p.2 1 (Wv x.2) σ D/\p.2.len<=p.2.cap
theorem kW.loc (ps:List (Nat×Sl))(bs:List Bt):dR (kW ps bs):=λσ g F G h d e=>⟨h.1,λi p x a b=>⟨(h.2 i p x a b).1,cP.loc _ _ _ _ _ _ _ (h.2 i p x a b).2.1 d e,(h.2 i p x a b).2.2⟩⟩
def vU (ps:List (Nat×Sl)):Prop:=ps.Pairwise λp q=>∀a a',p.2.a=some a->q.2.a=some a'->a.block≠a'.block
theorem vU.snoc {ps:List (Nat×Sl)}{bs:List Bt}{σ v:Hp}{D X:Rg}{s:Sl}{xs:List Int}(h:vU ps)(hB:kW ps bs σ D)(hne:∀x∈bs,x.2≠[])(hs:cP s 1 (Wv xs) v X)(hx:xs≠[])(hd:∀b,b<σ.size->D b->¬X b)(k:Nat):vU (ps++[(k,s)]):=by
 refine oe.2 ⟨h,yq _ _,λp w q r=>?_⟩;rw[zS]at r;subst r;intro a a' h1 h2 e;obtain⟨i,u⟩:=zL w;have d:=(cS.1 u).1;have m:bs[i]?=some (bs[i]'(by rw[←hB.1];exact d)):=cL _;generalize (bs[i]'(by rw[←hB.1];exact d))=y at m;obtain⟨_,g,_⟩:=hB.2 i p y u m;have j:=g.cA (by simpa[Wv]using hne y (zE m)) ⟨a,h1,rfl⟩;have z:=hs.cA (by simpa[Wv]using hx) ⟨a',h2,rfl⟩;rw[e]at j;exact hd _ j.2 j.1 z.1
def im (s:Sl)(bs:List Bt):Hp->Rg->Prop:=λσ F=>∃(ps:List (Nat×Sl)) (D:Rg),dQ s 2 (fO ps) σ (λq=>F q/\¬D q)/\kW ps bs σ D/\(∀q,D q->F q)/\vU ps/\∀x∈bs,x.2≠[]
theorem im.loc (s:Sl)(bs:List Bt):dR (im s bs):=λσ r F G ⟨m,D,j,i,e,p⟩ g b=>
 ⟨m,λq=>D q/\q<σ.size,dQ.loc _ _ _ _ _ _ _ j g λq a d=>⟨⟨(b q a d.1).1,λhd=>d.2 hd.1⟩,(b q a d.1).2⟩,kW.loc _ _ _ _ _ _ i g λq a hd=>⟨⟨hd,a⟩,(b q a (e q hd)).2⟩,λq a=>(b q a.2 (e q a.1)).1,p⟩
theorem im.nil (σ:Hp)(F:Rg)(a:Option Addr):im ⟨a,0,0⟩ [] σ F:=⟨[],λ_=>False,dQ.nil _ _ _ _,⟨rfl,λi p x h=>by simp at h⟩,λq h=>h.elim,List.Pairwise.nil,by simp⟩
theorem im.len {s:Sl}{bs:List Bt}(h:im s bs σ F):s.len=bs.length:=by
 obtain⟨d,D,a,b,_⟩:=h;have:=a.1;rw[KF]at this;have:=b.1;omega
theorem im.cap {s:Sl}{bs:List Bt}(h:im s bs σ F):s.len<=s.cap:=by
 obtain⟨b,D,a,_⟩:=h;exact a.cap
def Gj:Prop:=∀{σ:Hp} {F:Rg} {s:Sl} {xs:List (Nat×Sl)},bR s 2 (fO xs) σ F->(∀x∈xs,x.1<64)->xs.length<=1000->∀{R:aP},
 (∀xs' σ',xs'.Perm xs->xs'.Pairwise (λa b=>a.1<=b.1)->Ext F σ σ'->bR s 2 (fO xs') σ' F->R σ')->Z6.c s ⟨262,#[],#[]⟩ σ R
theorem E7:∀{a b:List Nat},a.Pairwise (· < ·)->b.Pairwise (· < ·)->(∀x,x∈a↔x∈b)->a=b
 | [],[],_,_,_=>rfl
 | [],y::b,_,_,h=>by have:=(h y).2 aA;simp at this
 | x::a,[],_,_,h=>by have:=(h x).1 aA;simp at this
 | x::a,y::b,ha,hb,h=>by
  rw[mA]at ha hb;have e:x=y:=by
   rcases zT.1 ((h x).1 aA)with h1|h1
   ·exact h1
   ·rcases zT.1 ((h y).2 aA)with h2|h2
    ·exact h2.symm
    ·have:=ha.1 y h2;have:=hb.1 x h1;omega
  subst e
  congr 1
  refine E7 ha.2 hb.2 λz=>?_;have d:=h z;simp only[zT]at d;constructor
  ·intro hza;have:=ha.1 z hza;rcases d.1 (.inr hza)with h1|h1
   ·omega
   ·exact h1
  ·intro hzb;have:=hb.1 z hzb;rcases d.2 (.inr hzb)with h1|h1
   ·omega
   ·exact h1
theorem HM {f:bX->Li->List Int×Li}{x:Bt}:x∈Ki f tb ls↔∃c l,tb[x.1]?=some c/\ls[x.1]?=some l/\x.2=(f c l).1/\x.2≠[]:=by
 unfold Ki;rw[xL];constructor
 ·rintro⟨k,hk,h⟩;split at h
  ·rename_i c l hc hl;split at h
   ·cases h
   ·rename_i hne;cases h;exact⟨c,l,hc,hl,rfl,hne⟩
  ·cases h
 ·rintro⟨c,l,hc,hl,e,hne⟩;refine⟨x.1,zW.2 (cS.1 hc).1,?_⟩;rw[hc,hl];simp only;rw[zA (by rw[←e];exact hne),←e]
theorem MK {f:bX->Li->List Int×Li}:((Ki f tb ls).map (·.1)).Pairwise (· < ·):=by
 unfold Ki;have key:∀(n:Nat),(((List.range n).filterMap λk=>match tb[k]?,ls[k]? with
  | some c,some l=>if(f c l).1=[]then none else some ((k,(f c l).1):Bt)
  | _,_=>none).map (·.1)).Pairwise (· < ·)/\∀x∈((List.range n).filterMap λk=>match tb[k]?,ls[k]? with
  | some c,some l=>if(f c l).1=[]then none else some ((k,(f c l).1):Bt)
  | _,_=>none),x.1<n:=by
  intro n
  induction n with
  | zero=>simp
  | succ n ih=>
   rw[zw,vw,kQ];refine⟨oe.2 ⟨ih.1,?_,?_⟩,?_⟩
   ·simp only[BZ,List.filterMap_nil];split<;>simp
   ·intro a ha b hb;obtain⟨x,g,rfl⟩:=zD.1 ha;obtain⟨y,e,rfl⟩:=zD.1 hb;have j:=ih.2 x g;obtain⟨m,i,d⟩:=xL.1 e;clear e hb ha;simp only[zS]at i;subst i;split at d
    ·split at d
     ·cases d
     ·cases d;exact j
    ·cases d
   ·intro x g;rcases zP.1 g with g|g
    ·have:=ih.2 x g;omega
    ·obtain⟨m,i,e⟩:=xL.1 g;simp only[zS]at i;subst i;split at e
     ·split at e
      ·cases e
      ·cases e;omega
     ·cases e
 exact(key tb.length).1
def nR (todo:List (Int×Option Addr))(k:Nat):Prop:=((k:Nat):Int)∈todo.map (·.1)
instance (todo:List (Int×Option Addr)) (k:Nat):Decidable (nR todo k):=by unfold nR;infer_instance
theorem GJ {todo:List (Int×Option Addr)}{m k:Nat}:nR (todo.filter λy=>!(y.1==(m:Int))) k↔nR todo k/\k≠m:=by
 unfold nR;simp only[zD,zH,nj,nk];constructor
 ·rintro⟨y,⟨h1,h2⟩,h3⟩;exact⟨⟨y,h1,h3⟩,λe=>h2 O⟩
 ·rintro⟨⟨y,h1,h3⟩,h2⟩;exact⟨y,⟨h1,λe=>h2 O⟩,h3⟩
structure AZ (f:bX->Li->List Int×Li) (tb:List bX) (ls:List Li) (todo:List (Int×Option Addr)) (ls':List Li) (outs:List Bt):Prop where
 l:∀k c l,tb[k]?=some c->ls[k]?=some l->ls'[k]?=some (if nR todo k then l else(f c l).2)
 n:(outs.map (·.1)).Nodup
 o:∀x:Bt,x∈outs↔∃c l,tb[x.1]?=some c/\ls[x.1]?=some l/\¬nR todo x.1/\x.2=(f c l).1/\x.2≠[]
theorem AZ.step {f:bX->Li->List Int×Li}{todo:List (Int×Option Addr)}{ls':List Li}{outs:List Bt}(h:AZ f tb ls todo ls' outs)(hc:tb[k]?=some c)(hl:ls[k]?=some l)(hk:nR todo k) :
 AZ f tb ls (todo.filter λy=>!(y.1==(k:Int))) (ls'.set k (f c l).2) (if(f c l).1=[]then outs else outs++[(k,(f c l).1)]):=by
 have u:=h.l k c l hc hl;have w:=(cS.1 u).1;have z:∀x∈outs,x.1≠k:=λx g e=>by
  obtain⟨_,_,_,_,C,_⟩:=(h.o x).1 g;rw[e]at C;exact C hk
 refine⟨λj d m hd p=>?_,?_,λx=>?_⟩
 ·by_cases hj:j=k
  ·subst hj;rw[hc]at hd;cases hd;rw[hl]at p;cases p;rw[zM w,zA (by rw[GJ];exact λg=>g.2 rfl)]
  ·rw[zj (Ne.symm hj),h.l j d m hd p]
   congr 1
   by_cases r:nR todo j
   ·rw[zB r,zB (GJ.2 ⟨r,hj⟩)]
   ·rw[zA r,zA λg=>r (GJ.1 g).1]
 ·split
  ·exact h.n
  ·rw[kQ,oO];refine⟨h.n,by simp,λa D b B e=>?_⟩;simp only[zK,qz,zS]at B;subst B;obtain⟨x,g,E⟩:=zD.1 D;exact z x g (E.trans e)
 ·have s:(∃d m,tb[x.1]?=some d/\ls[x.1]?=some m/\¬nR (todo.filter λy=>!(y.1==(k:Int))) x.1/\x.2=(f d m).1/\x.2≠[])↔x∈outs\/(x=(k,(f c l).1)/\(f c l).1≠[]):=by
   constructor
   ·rintro⟨d,m,hd,p,r,e,i⟩;by_cases hj:x.1=k
    ·right;rw[hj]at hd p;rw[hc]at hd;cases hd;rw[hl]at p;cases p;exact⟨Prod.ext hj e,by rw[←e];exact i⟩
    ·left;exact(h.o x).2 ⟨d,m,hd,p,λg=>r (GJ.2 ⟨g,hj⟩),e,i⟩
   ·rintro(g|⟨rfl,i⟩)
    ·obtain⟨d,m,hd,p,r,e,i⟩:=(h.o x).1 g;exact⟨d,m,hd,p,λA=>r (GJ.1 A).1,e,i⟩
    ·exact⟨c,l,hc,hl,λA=>(GJ.1 A).2 rfl,rfl,i⟩
  rw[s];split
  ·rename_i he;constructor
   ·exact .inl
   ·rintro(g|⟨_,i⟩)
    ·exact g
    ·exact absurd he i
  ·rename_i he;rw[zP,zS];constructor
   ·rintro(g|g)
    ·exact .inl g
    ·exact .inr ⟨g,he⟩
   ·rintro(g|g)
    ·exact .inl g
    ·exact .inr g.1
set_option maxRecDepth 4000 in
theorem IY (hso:Gj){f:bX->Li->List Int×Li}{fn:Nat}(hf:Di f fn)(hnil:∀c,c.ok->f c iD=([],iD))(h:eC σ F Y tb bud ls){R:Sl->Hp->Prop}
 (hR:∀σ' s (Q:Rg),Ext F σ σ'->(∀q,Q q->σ.size<=q)->eC σ' (λq=>Grow F σ q/\¬Q q) Y tb bud (Kg f tb ls)->im s (Ki f tb ls) σ' Q->R s σ') :
 Xi.c (aW Y.p) ⟨fn,#[],#[]⟩ σ R:=by
 refine Xi.o ?_;refine HT h (cF rfl (aG (h.hd.rM rfl ?_)));have htb:=h.nU;refine uE (a:=.s) h.map (λC (out:Sl) v=>∃(ls':List Li) (w:List Bt) (Q D:Rg) (ps:List (Nat×Sl)),Ext F σ v/\(∀q,Q q->σ.size<q)/\eC v (λq=>(Cut F σ q\/σ.size<q)/\¬Q q) Y tb bud ls' ∧
  bR out 2 (fO ps) v (λq=>Q q/\¬D q)/\kW ps w v D/\(∀q,D q->Q q)/\AZ f tb ls C ls' w/\(∀e∈C,e∈kM Y.ps)/\(C.map (·.1)).Nodup/\vU ps) ?_ ?_ ?_
 ·intro v hz e;refine⟨ls,[],λ_=>False,λ_=>False,[],bO.to e,λq g=>g.elim,((eC.loc.bK h.cut e).mono λq _ g=>⟨.inl g,id⟩),bR.nil _ _ _ _,⟨rfl,λi p x K=>by simp at K⟩,λq g=>g.elim,⟨λk c l E N=>?_,by simp,λx=>?_⟩,λe P=>P,h.map.nodup,List.Pairwise.nil⟩
  ·by_cases Z:nR (kM Y.ps) k
   ·rw[zB Z,N]
   ·rw[zA Z];have hf0:jE Y.ps k=none:=by
     unfold jE;simp only[qX,oV,zZ];exact λx r e=>Z (zD.2 ⟨((x.1:Int),some ⟨x.2,0,none⟩),zD.2 ⟨x,r,rfl⟩,by rw[e]⟩)
    have:=h.nil hf0 N;rw[N,this,hnil c (h.ok c (zE E))]
  ·simp only[List.not_mem_nil,false_iff];rintro⟨c,l,E,N,Z,e,hne⟩;have hf0:jE Y.ps x.1=none:=by
    unfold jE;simp only[qX,oV,zZ];exact λy V e=>Z (zD.2 ⟨((y.1:Int),some ⟨y.2,0,none⟩),zD.2 ⟨y,V,rfl⟩,by rw[e]⟩)
   have:=h.nil hf0 N;rw[this,hnil c (h.ok c (zE E))]at e;exact hne e
 ·rintro out v ⟨ls',w,Q,D,ps,e,hQ,hC,X,hB,hD,hI,_,_,U⟩;have hno:∀k,¬nR [] k:=λk hk=>by simp[nR]at hk
  have hls:ls'=Kg f tb ls:=by
   apply zp;intro k;by_cases hk:k<tb.length
   ·have E:tb[k]?=some tb[k]:=cL hk;have N:ls[k]?=some (ls[k]'(by rw[h.len];exact hk)):=cL _;rw[hI.l k _ _ E N,zA (hno k)];simp[Kg,DH,E,N]
   ·rw[zX (by rw[hC.len];omega),zX (by simp[Kg,h.len];omega)]
  subst hls;have hk1:∀(i:Nat) p,ps[i]?=some p->∃x,w[i]?=some x/\p.1=x.1/\cP p.2 1 (Wv x.2) v D/\p.2.len<=p.2.cap:=λi p K=>by
   have Z:=(cS.1 K).1;have r:w[i]?=some (w[i]'(by rw[←hB.1];exact Z)):=cL _;exact⟨_,r,hB.2 i p _ K r⟩
  have B:ps.map (·.1)=w.map (·.1):=by
   apply zp;intro i;simp only[ze];cases K:ps[i]? with
   | none=>
    have:w[i]?=none:=by
     rw[List.getElem?_eq_none_iff]at K ⊢;rw[←hB.1];exact K
    rw[this];rfl
   | some p=>
    obtain⟨x,r,e1,_⟩:=hk1 i p K;rw[r];simp[e1]
  have W:∀x∈w,x.1<40:=λx r=>by
   obtain⟨c,l,E,_⟩:=(hI.o x).1 r;have:=(cS.1 E).1;omega
  have hlen:ps.length<=40:=by
   have hn:=hI.n;rw[←B]at hn;have:=hn.length_le_of_subset (l₂:=List.range 40) λj U=>by
    rw[B]at U;obtain⟨x,r,rfl⟩:=zD.1 U;exact zW.2 (W x r)
   simpa using this
  refine hso X (λp K=>?_) O λps' v' M hsort e' hrow'=>?_
  ·have:p.1∈w.map (·.1):=by rw[←B];exact zD.2 ⟨p,K,rfl⟩
   obtain⟨x,r,e1⟩:=zD.1 this;have:=W x r;omega
  ·have hnd:(ps'.map (·.1)).Nodup:=(M.map _).nodup_iff.2 (by rw[B];exact hI.n);have hinc:(ps'.map (·.1)).Pairwise (· < ·):=by
    refine List.Pairwise.map (R:=λa b:Nat×Sl=>a.1<b.1) _ (λa b hab=>hab) ?_;have A:ps'.Pairwise λa b=>a.1≠b.1:=rK.1 hnd;exact(hsort.and A).imp λ{a b} hab=>by have:=hab.1;have:=hab.2;omega
   have hkk:ps'.map (·.1)=(Ki f tb ls).map (·.1):=by
    refine E7 hinc MK λj=>?_;rw[(M.map _).mem_iff,B];constructor
    ·intro U;obtain⟨x,r,rfl⟩:=zD.1 U;obtain⟨c,l,E,N,_,e1,e2⟩:=(hI.o x).1 r;exact zD.2 ⟨x,HM.2 ⟨c,l,E,N,e1,e2⟩,rfl⟩
    ·intro U;obtain⟨x,r,rfl⟩:=zD.1 U;obtain⟨c,l,E,N,e1,e2⟩:=HM.1 r;exact zD.2 ⟨x,(hI.o x).2 ⟨c,l,E,N,hno _,e1,e2⟩,rfl⟩
   have eQ:Ext F σ v':=e.fE e' λq g=>.inr (sZ (hQ q g.1));refine hR v' out Q eQ (λq g=>sZ (hQ q g)) ?_ ⟨ps',D,hrow'.o,⟨?_,λi p x K r=>?_⟩,hD,(M.pairwise_iff λ{a b} hab x y A h2 e=>hab y x h2 A e.symm).2 U,λx r=>by
    obtain⟨_,_,_,_,_,h2⟩:=HM.1 r;exact h2⟩
   ·refine(eC.loc.bU hC e' λq _ g hq2=>g.2 hq2.1).mono λq _ g=>⟨?_,g.2⟩;rcases g.1 with r|r
    ·exact .inl r.1
    ·exact .inr (sZ r)
   ·have:=congrArg List.length hkk;simpa using this
   ·have e1:p.1=x.1:=by
     have:=congrArg (λl=>l[i]?) hkk;simp only[ze,K,r,zh,Option.some.injEq]at this;exact this
    obtain⟨j,U⟩:=zL (M.mem_iff.1 (zE K));obtain⟨y,V,e2,hs,hcap⟩:=hk1 j p U;have e3:x.2=y.2:=by
     obtain⟨c,l,E,N,_,A,_⟩:=(hI.o y).1 (zE V);obtain⟨c',l',hc',hl',h2,_⟩:=HM.1 (zE r);rw[←e1,e2,E]at hc';cases hc';rw[←e1,e2,N]at hl';cases hl';rw[A,h2]
    rw[e3];exact⟨e1,aH.bU hs e' λq _ g hq2=>hq2.2 g,hcap⟩
 ·rintro C n x out v v' J ⟨ls',w,Q,D,ps,e,hQ,hC,X,hB,hD,hI,hsub,hnd,U⟩ r ho hlt hJ;have e1:Ext F σ v':=e.only ho (.inr (zC _));have S:eC v' (λq=>(Cut F σ q\/σ.size<q)/\¬Q q) Y tb bud ls':=eC.loc.bU hC ho.ext λq _ g P=>by
   rcases g.1 with A|A
   ·have:=A.2;omega
   ·omega
  have hrow1:bR out 2 (fO ps) v' (λq=>(Q q/\¬D q)/\q<v'.size):=aI.cut (aI.bU X ho.ext λq _ g P=>by have:=hQ q g.1;omega);have hB1:kW ps w v' (λq=>D q/\q<v'.size):=(kW.loc _ _).cut ((kW.loc _ _).bU hB ho.ext λq _ g P=>by have:=hQ q (hD q g);omega);have hmem:=hsub _ r;simp only[kM,zD,Prod.mk.injEq]at hmem;obtain⟨⟨k,b⟩,hkb,hk1,hx1⟩:=hmem;simp only at hk1 hx1;subst hk1;subst hx1;have hk:=h.keys _ hkb;simp only at hk;have E:tb[k]?=some tb[k]:=cL hk;have N:ls[k]?=some (ls[k]'(by rw[h.len];exact hk)):=cL _;generalize tb[k]=c at E;generalize (ls[k]'(by rw[h.len];exact hk))=l at N;have hcok:=h.ok c (zE E);have hlk:jE Y.ps k=some b:=F4 h.map.nodup hkb;have hin:nR C k:=zD.2 ⟨_,r,rfl⟩;have hl':ls'[k]?=some l:=by rw[hI.l k c l E N,zB hin]
  have L:=hI.step E N hin;have hmF:(λq=>(Cut F σ q\/σ.size<q)/\¬Q q) Y.m:=by
   obtain⟨H,hH,hm⟩:=S.sep.get .mp;exact hH _ hm.1
  obtain⟨G,hG,hL,hGm,hput⟩:=S.w8 hlk hl';have hbF:=hG b hL.1;have hbm:b≠Y.m:=λe=>hGm (e▸hL.1);have hbs:b≠σ.size:=λe=>by
   subst e;rcases hbF.1 with A|A
   ·have:=A.2;omega
   ·omega
  have hblt:b<v'.size:=by obtain⟨_,_,s,hbk,_⟩:=hL;exact hbk.lt
  have hsz1:=ho.1;refine aG (S.hd.rS rfl (uX S.jW E (d:=2) O ?_));simp only[zA (show ¬(2=0) by omega),zA (show ¬(2=1) by omega)];refine hf hL hcok λs z v5 e5 hz hr hL5=>?_;have hs5:=e5.1;obtain⟨eF,h5⟩:=hput v5 _ (λq=>q=b\/z<=q) (e5.sub λq g=>by rw[g];exact hL.1) (λq g=>g.imp (λ(r:q=b)=>by rw[r];exact hL.1) λ(r:z<=q)=>O) hL5;have h5:=h5.cut;have eF5:Ext F σ v5:=e1.fE eF λq g=>by
   rcases g.1 with A|A
   ·exact .inl A.1
   ·exact .inr (sZ A)
  have hnb:∀q,Q q->q≠b:=λq g hqb=>hbF.2 (hqb▸g);have hrow5:=aI.bU hrow1 e5 λq _ g P=>hnb q g.1.1 P;have hB5:=(kW.loc _ _).bU hB1 e5 λq _ g P=>hnb q (hD q g.1) P;have hsl:s.len=(f c l).1.length:=by have:=hr.1;simp[Wv]at this;omega
  have hsub':∀y∈C.filter (λy=>!(y.1==(k:Int))),y∈kM Y.ps:=λy V=>hsub y (zH.1 V).1;have hnd':((C.filter λy=>!(y.1==(k:Int))).map (·.1)).Nodup:=hnd.sublist (List.filter_sublist.map _);by_cases hemp:(f c l).1=[]
  ·rw[zB hemp]at L;refine fH (by rw[hsl,hemp];simp) (hJ out v5 (e5.2 _ O λP=>hbs P.symm) (e5.2 _ S.map.lt λP=>hbm P.symm) ?_);refine⟨_,w,λq=>Q q/\q<v'.size,λq=>D q/\q<v'.size,ps,eF5,λq g=>hQ q g.1,h5.mono λq _ g=>?_,aI.mono hrow5 λq _ g=>⟨⟨g.1.1,g.2⟩,λhd=>g.1.2 hd.1⟩,hB5,λq g=>⟨hD q g.1,g.2⟩,L,hsub',hnd',U⟩;rcases g.1 with A|A|A
   ·exact⟨A.1.1,λr=>A.1.2 r.1⟩
   ·subst A;exact⟨hbF.1,λr=>hbF.2 r.1⟩
   ·exact⟨.inr O,λr=>O⟩
  ·rw[zA hemp]at L;have hpos:=qC.2 hemp;refine mh (by rw[hsl];omega) (nw (cs:=pq (k,s)) λv6 hz6 e6 hb6=>?_);have hrow6:=aI.bK hrow5 e6;have hB6:=(kW.loc _ _).bK hB5 e6;have hr6:=aI.bK (aI.cut hr) e6;have hpl:out.len=ps.length:=by have:=X.1;rw[KF]at this;omega
   have hol:ps.length<=40:=by
    have B:w.map (·.1)⊆List.range 40:=λj U=>by
     obtain⟨x,r,rfl⟩:=zD.1 U;obtain⟨c,l,E,_⟩:=(hI.o x).1 r;have:=(cS.1 E).1;exact zW.2 O
    have:=hI.n.length_le_of_subset B;rw[hB.1];simpa using this
   refine hrow6.app (ys:=pq (k,s)) rfl rfl ?_ (λv hv=>HL (l:=[(k,s)]) v (by simpa[fO]using hv)) ?_ ?_ n4 λs' v7 hl7 e7 hr7=>?_
   ·intro j u hu;rw[add_lit,zG,hb6.cell];exact hu
   ·simp only;have:(out.len+1)*32<=41*32:=kU O O;omega
   ·simp only;omega
   have hs7:=e7.1;have e57:Ext (λq=>(Q q/\¬D q)/\q<v'.size) v5 v7:=(bO.to e6).trans e7;refine hJ s' v7 ?_ ?_ ?_
   ·rw[e57.2 _ O λr=>by have:=hQ _ r.1.1;omega];exact e5.2 _ O λP=>hbs P.symm
   ·rw[e57.2 _ (by have:=S.map.lt;omega) λr=>hmF.2 r.1.1];exact e5.2 _ S.map.lt λP=>hbm P.symm
   refine⟨_,_,λq=>Q q/\q<v'.size\/(v'.size<=q/\q<z)\/v5.size<=q,λq=>D q/\q<v'.size\/(v'.size<=q/\q<z)/\q<v5.size,ps++[(k,s)],eF5.fE e57 λq g=>.inr (sZ (hQ q g.1.1)),λq g=>?_,(eC.loc.bU h5 e57 λq hq5 g r=>?_).mono λq _ g=>?_,?_,⟨?_,λi p y K V=>?_⟩,λq g=>?_,L,hsub',hnd',U.snoc hB1 (λx r=>by
    obtain⟨_,_,_,_,_,_,h2⟩:=(hI.o x).1 r;exact h2) hr.fP hemp (λb hb r V=>by have:=r.2;have:=V.1;omega) k⟩
   ·rcases g with g|g|g
    ·exact hQ q g.1
    ·omega
    ·omega
   ·rcases g.1 with A|A|A
    ·exact A.1.2 r.1.1
    ·exact hnb q r.1.1 A
    ·have:=r.2;omega
   ·have hq5:=g.2;rcases g.1 with A|A|A
    ·exact⟨A.1.1,λr=>by
      rcases r with r|r|r
      ·exact A.1.2 r.1
      ·have:=A.2.1;omega
      ·omega⟩
    ·subst A;exact⟨hbF.1,λr=>by
      rcases r with r|r|r
      ·exact hbF.2 r.1
      ·omega
      ·omega⟩
    ·exact⟨.inr O,λr=>by
      rcases r with r|r|r<;>omega⟩
   ·rw[Hh];have:fO [(k,s)]=pq (k,s):=by simp[fO]
    rw[this];refine aI.mono hr7 λq _ g=>?_;rcases g with g|g
    ·exact⟨.inl ⟨g.1.1,g.2⟩,λhd=>by
      rcases hd with hd|hd
      ·exact g.1.2 hd.1
      ·omega⟩
    ·exact⟨.inr (.inr O),λhd=>by
      rcases hd with hd|hd<;>omega⟩
   ·rw[zJ,zJ,hB.1];rfl
   ·rcases mw i ps.length with Z|Z
    ·rw[zg Z]at K;rw[zg (by rw[←hB.1];exact Z)]at V;obtain⟨a1,a2,a3⟩:=hB6.2 i p y K V;exact⟨a1,aH.mono (aH.bU a2 e7 λq _ g r=>r.1.2 g.1) λq _ g=>.inl g,a3⟩
    ·rw[zi Z]at K;rw[zi (by rw[←hB.1];exact Z)]at V;have hi0:i-ps.length=0:=by
      have:=(cS.1 K).1;simp at this;omega
     rw[hi0]at K;rw[show i-w.length=0 by rw[←hB.1];exact hi0]at V;simp at K V;subst K;subst V;exact⟨rfl,aH.mono (aH.bU hr6.fP e7 λq _ g r=>by have:=r.2;have:=g.1;omega) λq _ g=>.inr g,bR.rG hr⟩
   ·rcases g with g|g
    ·exact .inl ⟨hD q g.1,g.2⟩
    ·exact .inr (.inl g.1)
theorem NO (hso:Gj)(h:eC σ F Y tb bud ls){R:Sl->Hp->Prop}
 (hR:∀σ' s (Q:Rg),Ext F σ σ'->(∀q,Q q->σ.size<=q)->eC σ' (λq=>Grow F σ q/\¬Q q) Y tb bud (Kg Z2 tb ls)->im s (Ki Z2 tb ls) σ' Q->R s σ'):XZ.c (aW Y.p) σ R:=by
 refine XZ.o ?_;exact IY hso PJ (λc _=>No c) h hR
theorem MU (hso:Gj)(h:eC σ F Y tb bud ls){R:Sl->Hp->Prop}
 (hR:∀σ' s (Q:Rg),Ext F σ σ'->(∀q,Q q->σ.size<=q)->eC σ' (λq=>Grow F σ q/\¬Q q) Y tb bud (Kg KQ tb ls)->im s (Ki KQ tb ls) σ' Q->R s σ'):W7.c (aW Y.p) σ R:=by
 refine W7.o ?_;exact IY hso NV RK h hR
end Go.Ar
namespace Go.Proofs
open Go.Vc
set_option maxRecDepth 100000
def Y5.h:Hn:=.q .o1 (.q (.q .o3 .aK) (.q .o1 (.q (.q .o8 (.k (.loop [(3,.one .s),(16,.I)] (.q .o1 (.q (.c .l .l) (.q (.k (.q .o3 .fW)) .o2)))))) .aL)))
theorem Y5.o {a:R2}{b:Hp}{c:Sl->Hp->Prop}(d:WJ.c a b λd e=>If (!d) (c ⟨none,0,0⟩ e) (bI a 9 e λg=>ZU.c g e λh i=>VS.c h i λj k=>WR [.s,bN] (λl=>l ⟨none,0,0⟩ 0 k) λm (n:Sl) (o:Int) p=>If (o<((j.len:Nat):Int)) (Ix j.a j.len o 1 λq=>bM q p λr=>bQ a λs=>bB s 9 p λt=>Lk .i64 (.ag 4) t r p λu=>aV #[.I ((u.getD (0,0,0,0)).1),.I ((u.getD (0,0,0,0)).2.1),.I ((u.getD (0,0,0,0)).2.2.1),.I ((u.getD (0,0,0,0)).2.2.2)] 76 p λv w=>App n 4 32 76 [.I 0,.I 0,.I 0,.I 0] ⟨some v,1,1⟩ w λx y=>bL (o+1) λz=>m x z y) (c n p))):Y5.c a b c:=Wa Tryz.func31 (x:=Y5.h) (R0 d)
def Y3.h:Hn:=.q .o1 (.q (.q .o3 .aK) (.q .o6 .l))
theorem Y3.o {a:R2}{b:Hp}{c:Sl->Hp->Prop}(d:WJ.c a b λd e=>If (!d) (c ⟨none,0,0⟩ e) (bE a 0 e λg=>Wc.c g e λh i=>c h i)):Y3.c a b c:=Wa Tryz.func33 (x:=Y3.h) (R0 d)
def Yf.h:Hn:=.q .o1 (.q (.q .o3 .aJ) (.q (.cV (.ic true [12] [(3,.one .ad)] (.tk [0,1,2,3,5,6,7,8] (.all [(4,.all [(9,.take 10 (.all [(11,.all [(12,.done)])])),(11,.all [(9,.take 10 (.all [(12,.done)]))])]),(11,.all [(4,.all [(9,.take 10 (.all [(12,.done)]))])])])))) (.q (.q .o5 (.k (.loop [] (.q (.cV (.seq [.it .i64 (.ag 4),.op])) (.q (.c .l .l) (.k (.q (.cV (.seq [.it .i64 (.ag 4),.op,.op,.op])) (.q .o3 (.c .o7 .l))))))))) (.q (.q .o6 (.k (.loop [(56,.I)] (.q .o1 (.q (.c .l .l) (.q (.k (.q .o4 (.q (.cV (.held true [7] (.tk [0,1,2,3] (.all [(4,.take 5 (.take 6 (.all [(7,.done)])))])))) (.q .o4 (.k (.loop [(70,.I)] (.q .o1 (.q (.c .l .l) (.q (.k (.q .o4 (.cV (.tail 17 (RI.ops 17) [.op])))) .o2))))))))) .o2)))))) (.q (.q .o6 (.k (.loop [(98,.I)] (.q .o1 (.q (.c .l .l) (.q (.k (.q .o3 (.q (.o 15) (.q (.o 18) (.o 19))))) .o2)))))) .aL)))))
theorem Yf.o {a:R2}{b:Hp}{c:Int->Int->Int->Int->Int->Int->Int->Int->Int->Int->Int->Hp->Prop}(d:aV #[.I 0,.I 0,.I 0,.I 0,.I 0,.I 0,.I 0,.I 0,.I 0,.I 0,.I 0] 89 b λd e=>WJ.c a e λf g=>If (!f) (aR d 0 (.I 0) g λh=>aR d 1 (.I 0) h λi=>aR d 2 (.I 0) i λj=>aR d 3 (.I 0) j λk=>aR d 4 (.I 0) k λl=>aR d 5 (.I 0) l λm=>aR d 6 (.I 0) m λn=>aR d 7 (.I 0) n λo=>aR d 8 (.I 0) o λp=>aR d 9 (.I 0) p λq=>aR d 10 (.I 0) q λr=>aQ d 0 r λs=>aQ d 1 r λt=>aQ d 2 r λu=>aQ d 3 r λv=>aQ d 4 r λw=>aQ d 5 r λx=>aQ d 6 r λy=>aQ d 7 r λz=>aQ d 8 r λaa=>aQ d 9 r λab=>aQ d 10 r λac=>c s t u v w x y z aa ab ac r) (Jn [.ad] (λ(ad:Addr) ae=>bI a 9 ae λag=>sf .i64 (.ag 4) ag ae λah ai=>WR [] (λaj=>aj ai) λak al=>sj .i64 (.ag 4) ah al (bE a 8 al λan=>WR [bN] (λao=>ao 0 al) λap (aq:Int) ar=>If (aq<((an.len:Nat):Int)) (Ix an.a an.len aq 3 λau=>aY au 0 ar λav=>aX au 1 ar λaw=>bA au 2 ar λax=>aV #[.pointer none,.slice none 0 0,.nilIface] 128 ar λay az=>O1 ax <| aR ay 0 (.pointer av) az λa0=>aR ay 1 (.slice aw.a aw.len aw.cap) a0 λa1=>aR ay 2 (ax) a1 λa2=>dW a2 λa3=>aS a3 ad 1 λa4=>aU a3 ay 0 λa5=>Xx.c a5 a2 λa6 a7=>
 And (a3 a7) <| bL (a4+a6) λa8=>aR ad 1 (.I a8) a7 λa9=>aX ay 1 a9 λba=>WR [bN] (λbb=>bb 0 a9) λbc (bd:Int) be=>If (bd<((ba.len:Nat):Int)) (Ix ba.a ba.len bd 2 λbf=>aQ bf 0 be λbg=>aX bf 1 be λbh=>aV #[.I 0,.slice none 0 0] 130 be λbi bj=>aR bi 0 (.I bg) bj λbk=>aR bi 1 (.slice bh.a bh.len bh.cap) bk λbl=>aQ ad 2 bl λbm=>aX bi 1 bl λbn=>bE a 0 bl λbp=>aQ bi 0 bl λbq=>Ix bp.a bp.len bq 3 λbr=>aQ br 0 bl λbs=>bL (((bn.len:Nat):Int)*bs) λbt=>bL (bm+bt) λbu=>aR ad 2 (.I bu) bl λbv=>bL (bd+1) λbw=>bc bw bv) (bL (aq+1) λbx=>ap bx be)) (bE a 7 ar λb0=>WR [bN] (λb1=>b1 0 ar) λb2 (b3:Int) b4=>If (b3<((b0.len:Nat):Int)) (Ix b0.a b0.len b3 1 λb5=>fX b5 b4 λb6=>X4.c b6 b4 λb7 b8 b9 ca cb cc cd=>aQ ad 3 cd λce=>bL (ce+b7) λcf=>aQ ad 4 cd λcg=>bL (cg+b8) λch=>aQ ad 5 cd λci=>bL (ci+b9) λcj=>aR ad 3 (.I cf) cd λck=>aR ad 4 (.I ch) ck λcl=>aR ad 5 (.I cj) cl λcm=>aQ ad 7 cm λcn=>bL (cn+ca) λco=>aQ ad 6 cm λcp=>bL (cb*256) λcq=>bL (cp+cq) λcr=>aQ ad 8 cm λcs=>bL (cs+cc) λct=>aR ad 7 (.I co) cm λcu=>aR ad 6 (.I cr) cu λcv=>aR ad 8 (.I ct) cv λcw=>bL (b3+1) λcx=>b2 cx cw) (aQ ad 0 b4 λcy=>aQ ad 1 b4 λcz=>
 aQ ad 2 b4 λc0=>aQ ad 3 b4 λc1=>aQ ad 4 b4 λc2=>aQ ad 5 b4 λc3=>aQ ad 6 b4 λc4=>aQ ad 7 b4 λc5=>aQ ad 8 b4 λc6=>aQ ad 9 b4 λc7=>aQ ad 10 b4 λc8=>aR d 0 (.I cy) b4 λc9=>aR d 1 (.I cz) c9 λda=>aR d 2 (.I c0) da λdb=>aR d 3 (.I c1) db λdc=>aR d 4 (.I c2) dc λdd=>aR d 5 (.I c3) dd λde=>aR d 6 (.I c4) de λdf=>aR d 7 (.I c5) df λdg=>aR d 8 (.I c6) dg λdh=>aR d 9 (.I c7) dh λdi=>aR d 10 (.I c8) di λdj=>aQ d 0 dj λdk=>aQ d 1 dj λdl=>aQ d 2 dj λdm=>aQ d 3 dj λdn=>aQ d 4 dj λdp=>aQ d 5 dj λdq=>aQ d 6 dj λdr=>aQ d 7 dj λds=>aQ d 8 dj λdt=>aQ d 9 dj λdu=>aQ d 10 dj λdv=>c dk dl dm dn dp dq dr ds dt du dv dj))) (λdw dx dy=>sq .i64 (.ag 4) ah dy λdz d0=>aV #[.I 0,.I 0,.I 0,.I 0] 76 dy λd1 d2=>aR d1 0 (.I d0.1) d2 λd3=>aR d1 1 (.I d0.2.1) d3 λd4=>aR d1 2 (.I d0.2.2.1) d4 λd5=>aR d1 3 (.I d0.2.2.2) d5 λd6=>aQ d1 2 d6 λd7=>If (d7≥0) (aQ ad 0 d6 λd8=>aQ d1 1 d6 λd9=>bL (d8+d9) λea=>aR ad 0 (.I ea) d6 λeb=>ak eb) (ak d6))) λec=>dW g λed=>bQ a λee=>aU ed ee 6 λef=>bQ a λeg=>aU ed eg 6 λeh=>(Xy.c ef g λei ej=>And (ed ej) <|
 (Xs.c eh ej λek el=>And (ed el) <| aV #[.I 0,.I 0,.I 0,.I 0,.I 0,.I 0,.I 0,.I 0,.I 0,.I 0,.I 0] 89 el λem en=>And (ed en) <| aR em 0 (.I 0) en λeo=>aR em 1 (.I 0) eo λep=>aR em 2 (.I 0) ep λeq=>aR em 3 (.I 0) eq λer=>aR em 4 (.I 0) er λes=>aR em 5 (.I 0) es λet=>aR em 6 (.I 0) et λeu=>aR em 7 (.I 0) eu λev=>aR em 8 (.I 0) ev λew=>aR em 9 (.I ei) ew λex=>aR em 10 (.I ek) ex λey=>ec em ey) ∧ (aV #[.I 0,.I 0,.I 0,.I 0,.I 0,.I 0,.I 0,.I 0,.I 0,.I 0,.I 0] 89 ej λez e0=>And (ed e0) <| Xs.c eh e0 λe1 e2=>And (ed e2) <| aR ez 0 (.I 0) e2 λe3=>aR ez 1 (.I 0) e3 λe4=>aR ez 2 (.I 0) e4 λe5=>aR ez 3 (.I 0) e5 λe6=>aR ez 4 (.I 0) e6 λe7=>aR ez 5 (.I 0) e7 λe8=>aR ez 6 (.I 0) e8 λe9=>aR ez 7 (.I 0) e9 λfa=>aR ez 8 (.I 0) fa λfb=>aR ez 9 (.I ei) fb λfc=>aR ez 10 (.I e1) fc λfd=>ec ez fd)) ∧ (aV #[.I 0,.I 0,.I 0,.I 0,.I 0,.I 0,.I 0,.I 0,.I 0,.I 0,.I 0] 89 g λfe ff=>And (ed ff) <| Xy.c ef ff λfg fh=>And (ed fh) <| Xs.c eh fh λfi fj=>And (ed fj) <| aR fe 0 (.I 0) fj λfk=>aR fe 1 (.I 0) fk λfl=>aR fe 2 (.I 0) fl λfm=>aR fe 3 (.I 0) fm λfn=>aR fe 4 (.I 0) fn λfo=>aR fe 5 (.I 0) fo λfp=>aR fe 6 (.I 0) fp λfq=>aR fe 7 (.I 0) fq λfr=>aR fe 8 (.I 0) fr λfs=>aR fe 9 (.I fg) fs λft=>aR fe 10 (.I fi) ft λfu=>
 ec fe fu))):Yf.c a b c:=Wa Tryz.func36 (x:=Yf.h) (R0 d)
def Zn.h:Hn:=.q .o2 (.q (.q .o3 (.c (.q .o3 .l) .l)) (.jc [] (.q .o4 (.q .o2 (.c (.q (.o 16) (.q .o2 (.c (.q (.o 12) (.q .o1 (.c (.q .o3 .l) .l))) .l))) .l))) (.q .o3 .l)))
theorem Zn.o {a:R2}{b:Int}{c:Hp}{d:Int->Int->Int->Int->Int->Hp->Prop}(e:aV #[.I 0,.I 0,.I 0,.I 0] 76 c λe f=>WJ.c a f λg h=>If (!g) (aR e 0 (.I 0) h λi=>aR e 1 (.I 0) i λj=>aR e 2 (.I 0) j λk=>aR e 3 (.I 0) k λl=>aQ e 0 l λm=>aQ e 1 l λn=>aQ e 2 l λo=>aQ e 3 l λp=>d m n o p 5 l) (Jn [] (λq=>aR e 0 (.I 0) q λr=>aR e 1 (.I 0) r λs=>aR e 2 (.I 0) s λt=>aR e 3 (.I 0) t λu=>aQ e 0 u λv=>aQ e 1 u λw=>aQ e 2 u λx=>aQ e 3 u λy=>d v w x y 8 u) λz=>X2.c a b h λaa ab=>If (aa≥0) (bE a 7 ab λad=>Ix ad.a ad.len aa 1 λae=>fX ae ab λaf=>Ym.c af b ab λag ah ai aj=>If (ai==0) (bI a 9 aj λal=>Lk .i64 (.ag 4) al ah aj λam=>aV #[.I 0,.I 0,.I 0,.I 0] 76 aj λan ao=>aR an 0 (.I ((am.getD (0,0,0,0)).1)) ao λap=>aR an 1 (.I ((am.getD (0,0,0,0)).2.1)) ap λaq=>aR an 2 (.I ((am.getD (0,0,0,0)).2.2.1)) aq λar=>aR an 3 (.I ((am.getD (0,0,0,0)).2.2.2)) ar λau=>If am.isSome (aQ an 0 au λav=>aQ an 1 au λaw=>aQ an 2 au λax=>aQ an 3 au λay=>aR e 0 (.I av) au λaz=>aR e 1 (.I aw) az λa0=>aR e 2 (.I ax) a0 λa1=>aR e 3 (.I ay) a1 λa2=>aQ e 0 a2 λa3=>aQ e 1 a2 λa4=>aQ e 2 a2 λa5=>aQ e 3 a2 λa6=>d a3 a4 a5 a6 0 a2)
 (z au)) (z aj)) (z ab))):Zn.c a b c d:=Wa Tryz.func38 (x:=Zn.h) (R0 e)
def Yp.h:Hn:=.q .o2 (.q .fW .l)
theorem Yp.o {a:R2}{b c d:Int}{e:Hp}{f:Int->Int->Hp->Prop}(g:X0.c a b 0 c d 0 e λg h i=>f g h i):Yp.c a b c d e f:=Wa Tryz.func52 (x:=Yp.h) (R0 g)
def Yr.h:Hn:=.q .o1 (.q (.q .o3 .aJ) (.q .o5 .l))
theorem Yr.o {a:R2}{b:Hp}{c:Int->Int->Int->Int->Int->Hp->Prop}(d:aV #[.I 0,.I 0,.I 0,.I 0,.I 0] 40 b λd e=>WJ.c a e λf g=>If (!f) (aR d 0 (.I 0) g λh=>aR d 1 (.I 0) h λi=>aR d 2 (.I 0) i λj=>aR d 3 (.I 0) j λk=>aR d 4 (.I 0) k λl=>aQ d 0 l λm=>aQ d 1 l λn=>aQ d 2 l λo=>aQ d 3 l λp=>aQ d 4 l λq=>c m n o p q l) (bQ a λr=>bM ((r.add 1).add 0) g λs=>bM ((r.add 1).add 1) g λt=>bM ((r.add 1).add 2) g λu=>bM ((r.add 1).add 3) g λv=>bM ((r.add 1).add 4) g λw=>aR d 0 (.I s) g λx=>aR d 1 (.I t) x λy=>aR d 2 (.I u) y λz=>aR d 3 (.I v) z λaa=>aR d 4 (.I w) aa λab=>aQ d 0 ab λac=>aQ d 1 ab λad=>aQ d 2 ab λae=>aQ d 3 ab λaf=>aQ d 4 ab λag=>c ac ad ae af ag ab)):Yr.c a b c:=Wa Tryz.func55 (x:=Yr.h) (R0 d)
def Zx.h:Hn:=.q .o2 (.q .o8 .l)
theorem Zx.o {a:R2}{b:Int}{c:Hp}{d:Int->Int->Hp->Prop}(e:YU.c a c λe f=>Zb.c e b f λg h i=>d g h i):Zx.c a b c d:=Wa Tryz.func56 (x:=Zx.h) (R0 e)
def Zl.h:Hn:=.q .o1 (.q .fW .aL)
theorem Zl.o {a:R2}{b c:Int}{d:Hp}{e:aN}(f:X0.c a b 1 0 0 c d λf g h=>e g h):Zl.c a b c d e:=Wa Tryz.func58 (x:=Zl.h) (R0 f)
def WJ.h:Hn:=.q .o1 (.q (.cV (.seq [.op,.op,.op,.dA true 6 (RI.ops 6),.op])) .l)
theorem WJ.o {a:R2}{b:Hp}{c:aO}(d:bY (λd e=>c d e) λf=>If (!a.isNone) (bE a 8 b λh=>f (decide (((h.len:Nat):Int)>0)) b) (f false b)):WJ.c a b c:=Wa Tryz.func65 (x:=WJ.h) (R0 d)
def X2.h:Hn:=.q .o2 (.q (.q .o2 .aK) (.q .o7 .l))
theorem X2.o {a:R2}{b:Int}{c:Hp}{d:aN}(e:aV #[.I b] 3 c λe f=>bM e f λg=>If (g<0) (d (-1) f) (bQ a λh=>aX h 7 f λi=>Wk.c i ⟨112,#[],#[.pointer (some e)]⟩ f λj k=>d j k)):X2.c a b c d:=Wa Tryz.func75 (x:=X2.h) (R0 e)
def X0.h:Hn:=.q .o3 (.q (.q .o5 (.q .o2 (.c (.q .o3 .l) .l))) (.k (.loop [] (.k (.q (.o 11) (.q .o1 (.c (.q (.oq 6) .l) .l)))))))
theorem X0.o {a:R2}{b c d e f:Int}{g:Hp}{h:Int->Int->Hp->Prop}(i:aV #[.I c,.I d,.I e,.I f] 142 g λi j=>aQ i 0 j λk=>aQ i 1 j λl=>aQ i 2 j λm=>aQ i 3 j λn=>Yi.c a b k l m n j λo p=>If (o != 0) (h 0 o p) (WR [] (λq=>q p) λr s=>Y7.c a b s λt u v w x=>aV #[.I 0,.I 0] 156 x λy z=>aR y 0 (.I u) z λaa=>aR y 1 (.I v) aa λab=>If t (aQ y 0 ab λac=>aQ y 1 ab λad=>h ac ad ab) (r ab))):X0.c a b c d e f g h:=Wa Tryz.func83 (x:=X0.h) (R0 i)
def YU.h:Hn:=.q .o1 (.q (.q .o3 .aK) (.q .o5 .l))
theorem YU.o {a:R2}{b:Hp}{c:Option Addr->Hp->Prop}(d:WJ.c a b λd e=>If (!d) (c none e) (bF a 6 e λg=>c g e)):YU.c a b c:=Wa Tryz.func84 (x:=YU.h) (R0 d)
def KC.h:Hn:=.q .o3 (.q (.k (.q .o4 (.c .aL (.q .o4 .aJ)))) (.q (.cV (.ic true [] [(6,.one .p)] (.take 0 (.take 2 (.all [(1,.all [(3,.take 4 (.all [(5,.take 6 (.done))]))]),(3,.all [(1,.take 4 (.all [(5,.take 6 (.done))]))])]))))) (.q .fW (.q (.q .o3 (.k (.loop [(36,.I)] (.q .o1 (.q (.c .l .l) (.q (.k (.q (.cV (.held true [7] (.take 0 (.take 1 (.take 2 (.take 3 (.take 4 (.take 5 (.take 6 (.all [(7,.take 8 (.take 9 (.take 10 (.take 11 (.take 12 (.done))))))])))))))))) (.o 11))) .o2)))))) (.q (.q .o3 (.k (.loop [(62,.I)] (.q .o1 (.q (.c .l .l) (.q (.k (.q .o9 (.o 12))) .o2)))))) (.q .o3 .l))))))
theorem KC.o {a:Sl}{b c d e f:Int}{g:Hp}{h:Option Addr->Int->Hp->Prop}(i:aV #[.I b,.I c,.I d,.I e,.I f] 40 g λi j=>ZK.c a j λk l=>If (!k) (h none 2 l) (aQ i 0 l λm=>aQ i 1 l λn=>aQ i 2 l λo=>aQ i 3 l λp=>aQ i 4 l λq=>QI.c m n o p q l λr s=>If (!r) (h none 1 s) (Jn [.p] (λ(t:R2) u=>aQ i 0 u λv=>Ka.c v u λw x y=>bQ t λz=>aR z 6 (.pointer w) y λaa=>aQ i 1 aa λab=>WR [bN] (λac=>ac 0 aa) λad (ae:Int) af=>If (ae<ab) (dW af λag=>bQ t λah=>aU ag ah 6 λai=>aS ag i 4 λaj=>Q6.c a ai aj af λak al am=>bE t 7 am λao=>aV #[.pointer ak] 131 am λap aq=>App ao 1 8 131 [.pointer none] ⟨some ap,1,1⟩ aq λar au=>bQ t λav=>aR av 7 (.slice ar.a ar.len ar.cap) au λaw=>bL (ae+1) λax=>ad ax aw) (aQ i 2 af λay=>WR [bN] (λaz=>az 0 af) λa0 (a1:Int) a2=>If (a1<ay) (aQ i 3 a2 λa3=>Q8.c a a3 a2 λa4 a5 a6=>bE t 8 a6 λa8=>aV #[.pointer a4,.slice none 0 0,.nilIface] 128 a6 λa9 ba=>App a8 3 48 128 [.pointer none,.slice none 0 0,.nilIface] ⟨some a9,1,1⟩ ba λbb bc=>bQ t λbd=>aR bd 8 (.slice bb.a bb.len bb.cap) bc λbe=>bL (a1+1) λbf=>a0 bf be) (h t 0 a2))) λbg=>dW s λbh=>aS bh i 0 λbi=>aS bh i 1 λbj=>
 aS bh i 2 λbk=>aS bh i 3 λbl=>aS bh i 4 λbm=>(Wc.c a s λbn bo=>And (bh bo) <| Nw (.map #[] 0) bo λbp bq=>And (bh bq) <| aV #[.slice bn.a bn.len bn.cap,.I bi,.I bj,.I bk,.I bl,.I bm,.pointer none,.slice none 0 0,.slice none 0 0,.map (some bp.block)] 46 bq λbr bs=>And (bh bs) <| bg (some br) bs) ∧ (Nw (.map #[] 0) s λbt bu=>And (bh bu) <| Wc.c a bu λbv bw=>And (bh bw) <| aV #[.slice bv.a bv.len bv.cap,.I bi,.I bj,.I bk,.I bl,.I bm,.pointer none,.slice none 0 0,.slice none 0 0,.map (some bt.block)] 46 bw λbx bz=>And (bh bz) <| bg (some bx) bz)))):KC.c a b c d e f g h:=Wa Tryz.func92 (x:=KC.h) (R0 i)
def Zw.h:Hn:=.q .o1 (.q .o9 .aL)
theorem Zw.o {a:R2}{b:Int}{c:Hp}{d:aN}(e:X0.c a b 2 0 0 0 c λe f g=>d f g):Zw.c a b c d:=Wa Tryz.func96 (x:=Zw.h) (R0 e)
def Zt.h:Hn:=.q .o1 (.q .o6 .l)
theorem Zt.o {a:R2}{b c:Int}{d:Hp}{e:aN}(f:YU.c a d λf g=>YH.c f b c g λh i=>e h i):Zt.c a b c d e:=Wa Tryz.func97 (x:=Zt.h) (R0 f)
def Yi.h:Hn:=.q .o2 (.q (.k (.q .o4 (.c .aM (.q .o5 (.c .aM (.q .fW .aK)))))) (.q .o4 (.q (.q .o2 .aK) (.q .o9 .aM))))
theorem Yi.o {a:R2}{b c d e f:Int}{g:Hp}{h:aN}(i:aV #[.I c,.I d,.I e,.I f] 142 g λi j=>WJ.c a j λk l=>If (!k) (h 5 l) (Y1.c a b l λm n=>If (!m) (h 1 n) (bQ a λo=>aX o 8 n λp=>Ix p.a p.len b 3 λq=>bA q 2 n λr=>And (jM r) <| If (!(lM r)) (h 5 n) (aQ i 0 n λs=>aQ i 1 n λt=>aQ i 2 n λu=>aQ i 3 n λv=>YA.c a s t u v n λw x=>And (jM w) <| If (lM w) (h 1 x) (bE a 8 x λz=>Ix z.a z.len b 3 λaa=>And (jM w) <| aR aa 2 (w) x λab=>h 0 ab))))):Yi.c a b c d e f g h:=Wa Tryz.func98 (x:=Yi.h) (R0 i)
def Y7.h:Hn:=.q .o3 (.q (.k (.q .o4 (.c (.q .o4 .l) (.q .o5 (.c (.q .o4 .l) (.q .fW (.c (.q .o4 .l) .l))))))) (.q (.o 17) (.q .o9 (.q (.cV (.tail 4 (RI.ops 4) [.op,.op])) .l))))
theorem Y7.o {a:R2}{b:Int}{c:Hp}{d:Bool->Int->Int->Int->Hp->Prop}(e:aV #[.I 0,.I 0] 156 c λe f=>WJ.c a f λg h=>If (!g) (aR e 0 (.I 0) h λi=>aR e 1 (.I 0) i λj=>aQ e 0 j λk=>aQ e 1 j λl=>d false k l 5 j) (Y1.c a b h λm n=>If (!m) (aR e 0 (.I 0) n λo=>aR e 1 (.I 0) o λp=>aQ e 0 p λq=>aQ e 1 p λr=>d false q r 1 p) (bE a 8 n λt=>Ix t.a t.len b 3 λu=>bA u 2 n λv=>And (jM v) <| If (lM v) (aR e 0 (.I 0) n λw=>aR e 1 (.I 0) w λx=>aQ e 0 x λy=>aQ e 1 x λz=>d false y z 5 x) (bE a 8 n λab=>Ix ab.a ab.len b 3 λac=>bA ac 2 n λad=>ZI.c a b (ad) n λae af ag ah=>aV #[.I 0,.I 0] 156 ah λai aj=>aR ai 0 (.I af) aj λak=>aR ai 1 (.I ag) ak λal=>bE a 8 al λan=>Ix an.a an.len b 3 λao=>And (jM ae) <| aR ao 2 (ae) al λap=>And (jM ae) <| aQ ai 0 ap λaq=>aQ ai 1 ap λar=>aR e 0 (.I aq) ap λau=>aR e 1 (.I ar) au λav=>aQ e 0 av λaw=>aQ e 1 av λax=>d (lM ae) aw ax 0 av)))):Y7.c a b c d:=Wa Tryz.func99 (x:=Y7.h) (R0 e)
def YD.h:Hn:=.q .o2 (.q (.k (.q .o4 (.c .aL (.q .o3 .aJ)))) (.q .o1 (.q (.q .o6 (.k (.loop [(6,.I),(23,.I)] (.q .o1 (.q (.c .l .l) (.q (.k (.q .o3 (.q (.q .o3 (.c .l .l)) (.q .fW .o4)))) .o2)))))) (.q .o3 .l))))
theorem YD.o {a:R2}{b:Int}{c:Hp}{d:Int->Int->Hp->Prop}(e:WJ.c a c λe f=>If (!e) (d 0 5 f) (If (b<0) (d 0 1 f) (bE a 7 f λh=>WR [bN,bN] (λi=>i 0 0 f) λj (k:Int) (l:Int) m=>If (l<((h.len:Nat):Int)) (Ix h.a h.len l 1 λn=>fX n m λo=>If (k≥b) (d k 0 m) (bL (b-k) λp=>Xg.c o p m λq r s=>bL (k+q) λt=>bL (l+1) λu=>j t u s)) (d k 0 m)))):YD.c a b c d:=Wa Tryz.func100 (x:=YD.h) (R0 e)
def ZD.h:Hn:=.q .o1 (.q (.q .o3 .aK) (.q .o1 (.q (.q .o6 (.k (.loop [(3,.I),(14,.I)] (.q .o1 (.q (.c .l .l) (.q (.k (.q .o3 .o5)) .o2)))))) .aL)))
theorem ZD.o {a:R2}{b:Hp}{c:aN}(d:WJ.c a b λd e=>If (!d) (c 0 e) (bE a 7 e λg=>WR [bN,bN] (λh=>h 0 0 e) λi (j:Int) (k:Int) l=>If (k<((g.len:Nat):Int)) (Ix g.a g.len k 1 λm=>fX m l λn=>Yw.c n l λo p=>bL (j+o) λq=>bL (k+1) λr=>i q r p) (c j l))):ZD.c a b c:=Wa Tryz.func101 (x:=ZD.h) (R0 d)
def ZE.h:Hn:=.q (.q .o3 (.c .l .l)) (.q .o6 (.k (.loop [(12,.I)] (.q .o1 (.q (.c .l .l) (.q (.k (.q .o3 .o2)) .o2))))))
theorem ZE.o {a:R2}{b:Hp}{c:aP}(d:WJ.c a b λd e=>If (!d) (c e) (bE a 7 e λg=>WR [bN] (λh=>h 0 e) λi (j:Int) k=>If (j<((g.len:Nat):Int)) (Ix g.a g.len j 1 λl=>fX l k λm=>Zd.c m k λn=>bL (j+1) λo=>i o n) (c k))):ZE.c a b c:=Wa Tryz.func102 (x:=ZE.h) (R0 d)
def Zk.h:Hn:=.q .o1 (.q .o5 .l)
theorem Zk.o {a:R2}{b:Addr}{c:Hp}{d:aO}(e:bM b c λe=>Nz 256<|bL (e.tdiv 256) λf=>Zc.c a f c λg h=>d g h):Zk.c a b c d:=Wa Tryz.func112 (x:=Zk.h) (R0 e)
def QI.h:Hn:=.q .o2 (.q (.cV (.seq [.op,.op,.op,.op,.dA true 3 (RI.ops 3),.op,.dA true 4 (RI.ops 4),.op,.dA true 3 (RI.ops 3),.op,.dA true 3 (RI.ops 3),.op,.dA true 3 (RI.ops 3),.op,.dA true 3 (RI.ops 3),.op,.dA true 3 (RI.ops 3),.op,.dA true 3 (RI.ops 3),.op,.dA true 3 (RI.ops 3),.op,.dA true 3 (RI.ops 3),.op])) .l)
theorem QI.o {a b c d e:Int}{f:Hp}{g:aO}(h:aV #[.I a,.I b,.I c,.I d,.I e] 40 f λh i=>aQ h 0 i λj=>bY (λk l=>bY (λm n=>bY (λo p=>bY (λq r=>bY (λs t=>bY (λu v=>bY (λw x=>bY (λy z=>bY (λaa ab=>bY (λac ad=>g ac ad) λae=>If aa (aQ h 4 ab λaf=>ae (decide (af<=8)) ab) (ae false ab)) λag=>If y (aQ h 4 z λah=>ag (decide (ah≥0)) z) (ag false z)) λai=>If w (aQ h 3 x λaj=>ai (decide (aj<=65536)) x) (ai false x)) λak=>If u (aQ h 3 v λal=>ak (decide (al≥0)) v) (ak false v)) λam=>If s (aQ h 2 t λan=>am (decide (an<=4)) t) (am false t)) λao=>If q (aQ h 2 r λap=>ao (decide (ap≥1)) r) (ao false r)) λaq=>If o (aQ h 1 p λar=>aq (decide (ar<=4)) p) (aq false p)) λau=>If m (aQ h 1 n λav=>au (decide (av≥1)) n) (au false n)) λaw=>If k (aQ h 0 l λax=>Nz 16 <| aw ((ax.tmod 16)==0) l) (aw false l)) λay=>If (j≥32) (aQ h 0 i λaz=>ay (decide (az<=1024)) i) (ay false i)):QI.c a b c d e f g:=Wa Tryz.func123 (x:=QI.h) (R0 h)
def Y1.h:Hn:=.q .o1 (.q (.cV (.seq [.op,.op,.op,.dA true 7 (RI.ops 7),.op])) .l)
theorem Y1.o {a:R2}{b:Int}{c:Hp}{d:aO}(e:bY (λe f=>d e f) λg=>If (b≥0) (bQ a λh=>aX h 8 c λi=>g (decide (b<((i.len:Nat):Int))) c) (g false c)):Y1.c a b c d:=Wa Tryz.func131 (x:=Y1.h) (R0 e)
def YA.h:Hn:=.q .o2 (.q (.q .o2 (.k (.q .o2 (.c (.q (.q (.cV (.seq [.op,.op,.op,.op,.dA false 3 (RI.ops 3)])) .aK) (.q (.cV (.held true [8] (.tk [0,1,2,3,4,5,6,7] (.all [(8,.tk [9,10,11,12,13] (.done))])))) (.q .o1 (.k (.q .o2 (.c (.q .o4 .l) (.q .o2 (.c (.q .o8 .l) .l)))))))) (.q .o2 (.c (.q .o5 .l) (.q .o2 (.c (.q .o3 .l) .l)))))))) .aM)
theorem YA.o {a:R2}{b c d e:Int}{f:Hp}{g:Value->Hp->Prop}(h:aV #[.I b,.I c,.I d,.I e] 142 f λh i=>aQ h 0 i λj=>If (j==0) (aQ h 1 i λk=>bY (λl m=>If l (g (.nilIface) m) (dW m λn=>bQ a λo=>aT n o 0 λp=>aS n h 1 λq=>aS n h 2 λr=>Z5.c p q r m λs t u=>If (t==0) (g (.iface 260 (.agg #[.I s])) u) (If (t==4) (aQ h 1 u λv=>bL (v+256) λw=>bL (w-1) λx=>Nz 256<|bL (x.tdiv 256) λy=>g (.iface 262 (.agg #[.I y])) u) (g (.nilIface) u)))) λz=>If (k<1) (z true i) (aQ h 1 i λaa=>z (decide (aa>16384)) i)) (If (j==1) (aQ h 3 i λab=>g (.iface 264 (.agg #[.I ab])) i) (If (j==2) (g (.iface 266 (.agg #[])) i) (g (.nilIface) i)))):YA.c a b c d e f g:=Wa Tryz.func132 (x:=YA.h) (R0 h)
def ZI.h:Hn:=.q .o2 (.q .o7 (.q (.cV (.held true [] (.tk [0,1,2,3,4,5] (.all [(6,.take 7 (.all [(8,.take 9 (.done))]))])))) (.jc [] (.q .o1 (.k (.q .o3 (.c (.q .o2 (.q (.q (.cV (.held true [6] (.tk [0,1,2,3,4,5] (.all [(6,.tk [7,8,9,10,11] (.done))])))) (.q .o2 (.c (.q (.cV (.held true [17] (.tk [0,1,2,3,4,5,6,7,8,9,10,11,12] (.all [(13,.tk [14,15,16] (.all [(17,.done)]))])))) .l) .l))) (.q (.cV (.held true [6] (.tk [0,1,2,3,4,5] (.all [(6,.tk [7,8,9,10,11] (.done))])))) (.q .o8 .l)))) (.q .o3 (.c (.q .o2 (.jc [] (.q (.oq 12) (.c (.q .o9 (.q .o2 (.c (.q .o6 (.q .o5 .l)) .l))) .l)) (.q .o5 .l))) (.q .o3 (.c (.q .o2 (.q (.q (.o 11) (.q .o3 (.c (.q .o6 (.q .o5 .l)) .l))) (.q .o5 .l))) (.q .o3 (.c (.q .o2 (.q (.q .o5 (.q .o2 (.c (.q .o4 .l) .l))) (.q .o5 .l))) (.q .o3 (.c (.q .o2 (.q .o8 (.q .o4 (.q (.cV (.tail 9 (RI.ops 9) [.op])) (.q (.cV (.held true [20] (.tk [0,1,2,3,4,5,6,7,8,9,10,11,12,13,14,15] (.all [(16,.tk [17,18,19] (.all [(20,.done)]))])))) .l))))) (.q .o3 (.c (.q .o2 (.q .o9 (.q (.q .o2 (.c (.q .o4 .l) .l)) (.q (.o 11) .l)))) (.q .o3 (.c (.q .o2 (.q .o9 .l)) (.q .o3 (.c (.q .o2 (.jc [] (.q (.cV (.held true [8] (.tk [0,1,2,3,4,5,6,7] (.all [(8,.tk [9,10,11,12,13] (.done))])))) (.q .o3 (.c .o6 .l))) (.q .o9 (.jc [] (.q .o5 (.c (.cV (.held true [13] (.tk [0,1,2,3,4,5,6,7,8] (.all [(9,.all [(10,.take 11 (.take 12 (.all [(13,.done)])))])])))) .l)) (.q .o6 .l))))) (.q .o3 (.c (.q .o2 (.q .o8 (.q .fW (.q (.cV (.held true [5] (.take 0 (.take 1 (.take 2 (.take 4 (.all [(3,.all [(5,.done)])]))))))) (.q .o6 .l))))) (.q .o3 (.c (.q .o2 (.cV (.tail 10 (RI.ops 10) [.op]))) (.q .o3 (.c (.q .o2 (.q .o9 (.q .o6 .l))) .l)))))))))))))))))))))))) (.q .o3 .l))))
theorem ZI.o {a:R2}{b:Int}{c:Value}{d:Hp}{e:Value->Int->Int->Hp->Prop}(f:aV #[.I 0,.I 0] 156 d λf g=>bQ a λh=>aX h 8 g λi=>Ix i.a i.len b 3 λj=>dW g λk=>bQ a λl=>aT k l 7 λm=>ZJ.c a b g λn o=>And (k o) <| Ix m.a m.len n 1 λp=>fX p o λq=>And (k o) <| Jn [] (λr=>aR f 0 (.I 0) r λs=>aR f 1 (.I 0) s λt=>aQ f 0 t λu=>aQ f 1 t λv=>e (.nilIface) u v t) λw=>∃t52:Int,∃is:Bool,kT c 260 [.I t52] [.I 0] is ∧ (If is (aV #[.I 0] 260 o λx y=>dG x (.I t52) y λz=>dW z λaa=>bQ (some j) λab=>aU aa ab 0 λac=>aS aa x 0 λad=>Yk.c ac ad z λae af ag=>If (af==0) (dW ag λah=>bQ a λai=>aT ah ai 0 λaj=>aS ah x 0 λak=>Ix aj.a aj.len ak 3 λal=>aS ah al 0 λam=>aS ah x 0 λan=>Y8.c a ae am an ag λao ap aq ar=>And (ah ar) <| aR f 0 (.I ap) ar λau=>aR f 1 (.I aq) au λav=>aQ f 0 av λaw=>aQ f 1 av λax=>e (ao) aw ax av) (dW ag λay=>bQ (some j) λaz=>aU ay az 0 λa0=>aS ay x 0 λa1=>Yt.c a0 a1 ag λa2 a3 a4=>aQ x 0 a4 λa5=>aR f 0 (.I 0) a4 λa6=>aR f 1 (.I 0) a6 λa7=>aQ f 0 a7 λa8=>aQ f 1 a7 λa9=>e (.iface 270 (.agg #[.I a5,.I a2])) a8 a9 a7)) (∃t99:Int,∃t991:Int,∃is1:Bool,kT c 270 [.I t99,.I t991] [.I 0,.I 0] is1 ∧
 (If is1 (aV #[.I 0,.I 0] 270 o λba bb=>aR ba 0 (.I t99) bb λbc=>aR ba 1 (.I t991) bc λbd=>Jn [] (λbe=>aQ ba 0 be λbf=>aQ ba 1 be λbg=>aR f 0 (.I 0) be λbh=>aR f 1 (.I 0) bh λbi=>aQ f 0 bi λbj=>aQ f 1 bi λbk=>e (.iface 275 (.agg #[.I bf,.I bg])) bj bk bi) λbl=>aQ ba 1 bd λbm=>bE a 0 bd λbo=>aQ ba 0 bd λbp=>Ix bo.a bo.len bp 3 λbq=>aQ bq 2 bd λbr=>If (bm==br) (aQ ba 0 bd λbs=>WA.c q bs bd λbt bu bv=>If (bu==0) (aQ ba 0 bv λbw=>YL.c a b bw bt bv λbx=>aR f 0 (.I 0) bx λbz=>aR f 1 (.I 0) bz λb0=>aQ f 0 b0 λb1=>aQ f 1 b0 λb2=>e (.iface 274 (.agg #[])) b1 b2 b0) (bl bv)) (bl bd)) (∃t135:Int,∃t1351:Int,∃is2:Bool,kT c 275 [.I t135,.I t1351] [.I 0,.I 0] is2 ∧ (If is2 (aV #[.I 0,.I 0] 275 o λb3 b4=>aR b3 0 (.I t135) b4 λb5=>aR b3 1 (.I t1351) b5 λb6=>aQ b3 0 b6 λb7=>aQ b3 1 b6 λb8=>WE.c q b7 b8 b6 λb9 ca cb=>If (((b9.len:Nat):Int)>0) (aQ b3 0 cb λcc=>YL.c a b cc b9 cb λcd=>aR f 0 (.I 0) cd λce=>aR f 1 (.I 0) ce λcf=>aQ f 0 cf λcg=>aQ f 1 cf λch=>e (.iface 274 (.agg #[])) cg ch cf) (aQ b3 0 cb λci=>aQ b3 1 cb λcj=>aR f 0 (.I 0) cb λck=>aR f 1 (.I 0) ck λcl=>aQ f 0 cl λcm=>aQ f 1 cl λcn=>
 e (.iface 277 (.agg #[.I ci,.I cj])) cm cn cl)) (∃t162:Int,∃t1621:Int,∃is3:Bool,kT c 277 [.I t162,.I t1621] [.I 0,.I 0] is3 ∧ (If is3 (aV #[.I 0,.I 0] 277 o λco cp=>aR co 0 (.I t162) cp λcq=>aR co 1 (.I t1621) cq λcr=>aQ co 0 cr λcs=>Yn.c q cs cr λct cu=>If (ct != 0) (aR f 0 (.I 0) cu λcv=>aR f 1 (.I ct) cv λcw=>aQ f 0 cw λcx=>aQ f 1 cw λcy=>e (.nilIface) cx cy cw) (aQ co 0 cu λcz=>aQ co 1 cu λc0=>aR f 0 (.I 0) cu λc1=>aR f 1 (.I 0) c1 λc2=>aQ f 0 c2 λc3=>aQ f 1 c2 λc4=>e (.iface 275 (.agg #[.I cz,.I c0])) c3 c4 c2)) (∃is4:Bool,kT c 274 [] [] is4 ∧ (If is4 (aV #[] 274 o λc5 c6=>bE (some j) 1 c6 λc8=>Ix c8.a c8.len 0 2 λc9=>aQ c9 0 c6 λda=>aX c9 1 c6 λdb=>aV #[.I 0,.slice none 0 0] 130 c6 λdc dd=>aR dc 0 (.I da) dd λde=>aR dc 1 (.slice db.a db.len db.cap) de λdf=>bQ (some j) λdg=>aR dg 1 (.slice none 0 0) df λdh=>bF (some j) 0 dh λdj=>aQ dc 0 dh λdk=>aX dc 1 dh λdl=>eX dl 1 1 (dl.len:Nat) (dl.cap:Nat) λdm=>Yx.c dj dk dm dh λdn dp=>dW dp λdq=>aT dq dc 1 λdr=>Ix dr.a dr.len 0 1 λds=>gT dq bN ds λ(dt:Int)=>bQ a λdu=>aT dq du 0 λdv=>aS dq dc 0 λdw=>Ix dv.a dv.len dw 3 λdx=>aS dq dx 0 λdy=>
 aS dq dc 0 λdz=>Y8.c a dt dy dz dp λd0 d1 d2 d3=>And (dq d3) <| aR f 0 (.I d1) d3 λd4=>aR f 1 (.I d2) d4 λd5=>aQ f 0 d5 λd6=>aQ f 1 d5 λd7=>e (d0) d6 d7 d5) (∃t217:Int,∃is5:Bool,kT c 262 [.I t217] [.I 0] is5 ∧ (If is5 (aV #[.I 0] 262 o λd8 d9=>dG d8 (.I t217) d9 λea=>aQ d8 0 ea λeb=>WT.c q eb 1 ea λec ed ee=>If (ed != 0) (aR f 0 (.I 0) ee λef=>aR f 1 (.I ed) ef λeg=>aQ f 0 eg λeh=>aQ f 1 eg λei=>e (.nilIface) eh ei eg) (bL (ec*256) λej=>aQ d8 0 ee λek=>bL (ek*256) λel=>Y8.c a ej el (-1) ee λem en eo ep=>aR f 0 (.I en) ep λeq=>aR f 1 (.I eo) eq λer=>aQ f 0 er λes=>aQ f 1 er λet=>e (em) es et er)) (∃t240:Int,∃is6:Bool,kT c 264 [.I t240] [.I 0] is6 ∧ (If is6 (aV #[.I 0] 264 o λeu ev=>dG eu (.I t240) ev λew=>aQ eu 0 ew λex=>ZF.c a b ex ew λey ez e0 e1=>aR f 0 (.I ez) e1 λe2=>aR f 1 (.I e0) e2 λe3=>aQ f 0 e3 λe4=>aQ f 1 e3 λe5=>e (ey) e4 e5 e3) (∃t250:Int,∃t2501:Int,∃is7:Bool,kT c 282 [.I t250,.I t2501] [.I 0,.I 0] is7 ∧ (If is7 (aV #[.I 0,.I 0] 282 o λe6 e7=>aR e6 0 (.I t250) e7 λe8=>aR e6 1 (.I t2501) e8 λe9=>Jn [] (λfa=>bE (some j) 1 fa λfc=>eX fc 2 1 (fc.len:Nat) (fc.cap:Nat) λfd=>bQ (some j) λfe=>aR fe 1 (.slice fd.a fd.len fd.cap) fa λff=>Jn [] (λfg=>
 W6.c a b fg λfh fi=>aR f 0 (.I 0) fi λfj=>aR f 1 (.I 0) fj λfk=>aQ f 0 fk λfl=>aQ f 1 fk λfm=>e (fh) fl fm fk) λfn=>bF (some j) 0 ff λfp=>Yh.c fp ff λfq fr=>If fq (dW fr λfs=>bQ (some j) λft=>aT fs ft 1 λfu=>bQ (some j) λfv=>aU fs fv 0 λfw=>W7.c fw fr λfx fy=>And (fs fy) <| App fu 2 32 130 [.I 0,.slice none 0 0] fx fy λfz f0=>And (fs f0) <| bQ (some j) λf1=>aR f1 1 (.slice fz.a fz.len fz.cap) f0 λf2=>fn f2) (fn fr)) λf3=>dW e9 λf4=>bQ (some j) λf5=>aU f4 f5 0 λf6=>aS f4 e6 0 λf7=>aS f4 e6 1 λf8=>YW.c f6 f7 f8 e9 λf9 ga gb=>If (((f9.len:Nat):Int)>0) (aQ e6 0 gb λgc=>YL.c a b gc f9 gb λgd=>f3 gd) (f3 gb)) (∃is8:Bool,kT c 285 [] [] is8 ∧ (If is8 (aV #[] 285 o λge gf=>bE (some j) 1 gf λgh=>Ix gh.a gh.len 0 2 λgi=>aQ gi 0 gf λgj=>aX gi 1 gf λgk=>aV #[.I 0,.slice none 0 0] 130 gf λgl gm=>aR gl 0 (.I gj) gm λgn=>aR gl 1 (.slice gk.a gk.len gk.cap) gn λgo=>bE (some j) 1 go λgq=>eX gq 2 1 (gq.len:Nat) (gq.cap:Nat) λgr=>Wq.c gr go λgs gt=>bQ (some j) λgu=>aR gu 1 (.slice gs.a gs.len gs.cap) gt λgv=>dW gv λgw=>aS gw gl 0 λgx=>aT gw gl 1 λgy=>ZJ.c a b gv λgz g0=>And (gw g0) <| ZC.c a gz gx gy g0 λg1=>
 W6.c a b g1 λg2 g3=>aR f 0 (.I 0) g3 λg4=>aR f 1 (.I 0) g4 λg5=>aQ f 0 g5 λg6=>aQ f 1 g5 λg7=>e (g2) g6 g7 g5) (∃t332:Int,∃t3321:Int,∃is9:Bool,kT c 289 [.I t332,.I t3321] [.I 0,.I 0] is9 ∧ (If is9 (aV #[.I 0,.I 0] 289 o λg8 g9=>aR g8 0 (.I t332) g9 λha=>aR g8 1 (.I t3321) ha λhb=>bE a 7 hb λhd=>aQ g8 1 hb λhe=>Ix hd.a hd.len he 1 λhf=>fX hf hb λhg=>aQ g8 0 hb λhh=>WU.c hg hh hb λhi hj=>w hj) (∃is10:Bool,kT c 266 [] [] is10 ∧ (If is10 (aV #[] 266 o λhk hl=>bF (some j) 0 hl λhn=>XZ.c hn hl λho hp=>bQ (some j) λhq=>aR hq 1 (.slice ho.a ho.len ho.cap) hp λhr=>W6.c a b hr λhs ht=>aR f 0 (.I 0) ht λhu=>aR f 1 (.I 0) hu λhv=>aQ f 0 hv λhw=>aQ f 1 hv λhx=>e (hs) hw hx hv) (w o))))))))))))))))))))))):ZI.c a b c d e:=Wa Tryz.func133 (x:=ZI.h) (R0 f)
def ZJ.h:Hn:=.q .o1 (.q .o8 .l)
theorem ZJ.o {a:R2}{b:Int}{c:Hp}{d:aN}(e:bQ a λe=>aX e 7 c λf=>Nz ((f.len:Nat):Int) <| d (b.tmod ((f.len:Nat):Int)) c):ZJ.c a b c d:=Wa Tryz.func170 (x:=ZJ.h) (R0 e)
def Y8.h:Hn:=.q .o2 (.q (.cV (.held true [12] (.tk [0,1,2,3,4,5,6,7,8,9] (.all [(10,.take 11 (.all [(12,.done)]))])))) (.q .o4 .l))
theorem Y8.o {a:R2}{b c d:Int}{e:Hp}{f:Value->Int->Int->Hp->Prop}(g:aV #[.I 0,.I 0] 156 e λg h=>dW h λi=>bQ a λj=>gT i .m (j.add 9) λ(k:Option Nat)=>X2.c a b h λl m=>And (i m) <| ld .i64 (.ag 4) k b (b,c,d,l) m λn=>aR g 0 (.I b) n λo=>aR g 1 (.I 0) o λp=>aQ g 0 p λq=>aQ g 1 p λr=>f (.nilIface) q r p):Y8.c a b c d e f:=Wa Tryz.func172 (x:=Y8.h) (R0 g)
def YL.h:Hn:=.cV (.held true [20] (.tk [0,1,2,3,4,5,6,7,8,9,10,11,12,13,14,15] (.all [(16,.all [(17,.take 18 (.take 19 (.all [(20,.done)])))])])))
theorem YL.o {a:R2}{b c:Int}{d:Sl}{e:Hp}{f:aP}(g:dW e λg=>bQ a λh=>aT g h 8 λi=>bQ a λj=>aT g j 8 λk=>Ix k.a k.len b 3 λl=>aT g l 1 λm=>aV #[.I c,.slice d.a d.len d.cap] 130 e λn o=>And (g o) <| App m 2 32 130 [.I 0,.slice none 0 0] ⟨some n,1,1⟩ o λp q=>And (g q) <| Ix i.a i.len b 3 λr=>aR r 1 (.slice p.a p.len p.cap) q λs=>f s):YL.c a b c d e f:=Wa Tryz.func175 (x:=YL.h) (R0 g)
def ZF.h:Hn:=.q .o2 (.q (.o 12) (.q (.q .o2 (.c (.jc [] (.q .o4 (.q .o2 (.c (.q (.o 16) (.q (.cV (.seq [.op,.op,.op,.dA true 2 [.op,.op],.op,.dA true 3 (RI.ops 3)])) (.c (.q .o3 .l) .l))) .l))) (.q .o3 .l)) .l)) (.q .o6 (.q (.q .o3 (.c (.q .o9 .l) .l)) (.q .o7 (.q .o8 .l))))))
theorem ZF.o {a:R2}{b c:Int}{d:Hp}{e:Value->Int->Int->Hp->Prop}(f:aV #[.I 0,.I 0] 156 d λf g=>bQ a λh=>bB h 9 g λi=>Lk .i64 (.ag 4) i c g λj=>aV #[.I 0,.I 0,.I 0,.I 0] 76 g λk l=>aR k 0 (.I ((j.getD (0,0,0,0)).1)) l λm=>aR k 1 (.I ((j.getD (0,0,0,0)).2.1)) m λn=>aR k 2 (.I ((j.getD (0,0,0,0)).2.2.1)) n λo=>aR k 3 (.I ((j.getD (0,0,0,0)).2.2.2)) o λp=>If (!j.isSome) (Jn [] (λq=>aR f 0 (.I 0) q λr=>aR f 1 (.I 8) r λs=>aQ f 0 s λt=>aQ f 1 s λu=>e (.nilIface) t u s) λv=>X2.c a c p λw x=>If (w≥0) (bE a 7 x λz=>Ix z.a z.len w 1 λaa=>fX aa x λab=>Ym.c ab c x λac ad ae af=>bY (λag ah=>bY (λai aj=>If ai (aR f 0 (.I 0) aj λak=>aR f 1 (.I 9) ak λal=>aQ f 0 al λam=>aQ f 1 al λan=>e (.nilIface) am an al) (v aj)) λao=>If ag (ao (ad==c) ah) (ao false ah)) λap=>If (ae==0) (ap (decide (ac≥0)) af) (ap false af)) (v x)) (bI a 9 p λar=>mL .i64 (.ag 4) ar c p λau=>aQ k 2 au λav=>If (av<0) (Nz 256<|bL (c.tdiv 256) λaw=>aQ k 3 au λax=>aR f 0 (.I 0) au λay=>aR f 1 (.I 0) ay λaz=>aQ f 0 az λa0=>aQ f 1 az λa1=>e (.iface 289 (.agg #[.I aw,.I ax])) a0 a1 az) (aQ k 2 au λa2=>aV #[.I c] 3 au λa3 a4=>YL.c a b a2 ⟨some a3,1,1⟩ a4 λa5=>aQ k 2 a5 λa6=>aR f 0 (.I 0) a5 λa7=>
 aR f 1 (.I 0) a7 λa8=>aQ f 0 a8 λa9=>aQ f 1 a8 λba=>e (.iface 282 (.agg #[.I a6,.I c])) a9 ba a8))):ZF.c a b c d e:=Wa Tryz.func180 (x:=ZF.h) (R0 f)
def W6.h:Hn:=.q .o1 (.q (.q .fW .aK) (.q .o3 .l))
theorem W6.o {a:R2}{b:Int}{c:Hp}{d:Value->Hp->Prop}(e:bQ a λe=>aX e 8 c λf=>Ix f.a f.len b 3 λg=>aX g 1 c λh=>If (((h.len:Nat):Int)==0) (d (.nilIface) c) (d (.iface 285 (.agg #[])) c)):W6.c a b c d:=Wa Tryz.func184 (x:=W6.h) (R0 e)
def ZC.h:Hn:=.q .o1 (.q .o7 (.q (.q .o4 (.k (.loop [(23,.I)] (.q .o1 (.q (.c .l .l) (.q (.k (.q .o3 (.q .o4 (.o 11)))) .o2)))))) (.jc [] (.q (.oq 9) (.c (.q (.cV (.held true [] (.tk [0,1,2,3,4,5,6,7,8,9,10] (.all [(11,.tk [12,13,14,15,16] (.done))])))) (.q (.cV (.seq [.op,.op,.dA true 2 [.op,.op]])) (.c .l .l))) .l)) (.q .o3 (.k (.loop [(72,.I)] (.q .o1 (.q (.c .l .l) (.q (.k (.q .o5 (.q .o3 (.c (.cV (.tail 10 (RI.ops 10) [.op])) .l)))) .o2)))))))))
theorem ZC.o {a:R2}{b c:Int}{d:Sl}{e:Hp}{f:aP}(g:aV #[.I c,.slice d.a d.len d.cap] 130 e λg h=>bQ a λi=>aX i 7 h λj=>Mk ((j.len:Nat):Int) ((j.len:Nat):Int) 24 69 [.slice none 0 0] h λk l=>aX g 1 l λm=>WR [bN] (λn=>n 0 l) λo (p:Int) q=>If (p<((m.len:Nat):Int)) (Ix m.a m.len p 1 λr=>bM r q λs=>X2.c a s q λt u=>Ix k.a k.len t 1 λv=>jB v u λw=>aV #[.I s] 3 u λx y=>App w 1 8 3 [.I 0] ⟨some x,1,1⟩ y λz aa=>Ix k.a k.len t 1 λab=>dG ab (.slice z.a z.len z.cap) aa λac=>bL (p+1) λad=>o ad ac) (Jn [] (λae=>WR [bN] (λaf=>af 0 ae) λag (ah:Int) ai=>If (ah<((k.len:Nat):Int)) (Ix k.a k.len ah 1 λaj=>jB aj ai λak=>If (((ak.len:Nat):Int)>0) (bE a 7 ai λam=>Ix am.a am.len ah 1 λan=>fX an ai λao=>aQ g 0 ai λap=>WC.c ao ap ak ai λaq ar=>bL (ah+1) λau=>ag au ar) (bL (ah+1) λav=>ag av ai)) (f ai)) λaw=>Ix k.a k.len b 1 λax=>jB ax q λay=>aX g 1 q λaz=>If (((ay.len:Nat):Int)==((az.len:Nat):Int)) (dW q λa0=>bQ a λa1=>aT a0 a1 7 λa2=>Ix a2.a a2.len b 1 λa3=>gT a0 .p a3 λ(a4:R2)=>aS a0 g 0 λa5=>aT a0 g 1 λa6=>WK.c a4 a5 a6 q λa7 a8 a9=>And (a0 a9) <| bY (λba bb=>If ba (f bb) (aw bb)) λbc=>If a7 (bc (a8==0) a9) (bc false a9)) (aw q))):ZC.c a b c d e f:=Wa Tryz.func186 (x:=ZC.h) (R0 g)
end Go.Proofs
namespace Go.Ar
open Go Go.Vc Go.Proofs
def og:Option Ph->Value
 | none=>.nilIface
 | some (.take k)=>.iface 260 (.agg #[.int .i64 (k:Int)])
 | some (.cO k w)=>.iface 270 (.agg #[.int .i64 (k:Int),.int .i64 (w:Int)])
 | some (.cQ k w)=>.iface 275 (.agg #[.int .i64 (k:Int),.int .i64 (w:Int)])
 | some (.grow k w)=>.iface 277 (.agg #[.int .i64 (k:Int),.int .i64 (w:Int)])
 | some .fill=>.iface 274 (.agg #[])
 | some (.eT m)=>.iface 262 (.agg #[.int .i64 (m:Int)])
 | some (.find x)=>.iface 264 (.agg #[.int .i64 x])
 | some (.put k x)=>.iface 282 (.agg #[.int .i64 (k:Int),.int .i64 x])
 | some .back=>.iface 285 (.agg #[])
 | some (.dK s a)=>.iface 289 (.agg #[.int .i64 s,.int .i64 a])
 | some .drain=>.iface 266 (.agg #[])
theorem yb (p:Option Ph):jM (og p):=by
 cases p with
 | none=>exact .inl rfl
 | some p=>cases p<;>exact .inr ⟨_,_,rfl⟩
theorem AX (p:Option Ph):lM (og p)=p.isNone:=by
 cases p with
 | none=>rfl
 | some p=>cases p<;>rfl
inductive lx where
 | hd|dF|sp|fY|cM|live
 | ar (k:Nat)
 | ca (k:Nat)
 | hn (k:Nat)
 deriving DecidableEq
structure eH where
 c:hO
 h:Sl
structure dP where
 p:Nat
 hs:Nat
 lm:Nat
 dF:Sl
 fY:Sl
 cM:Sl
 ys:List Lay
 ts:List eH
def uC (L:dP)(c:Cf):List Value:=[.slice L.dF.a L.dF.len L.dF.cap,.int .i64 (c.aF:Int),.int .i64 (c.iv:Int),.int .i64 (c.threads:Int),.int .i64 (c.dB:Int),.int .i64 (c.room:Int),
 .pointer (some ⟨L.hs,0,none⟩),.slice L.fY.a L.fY.len L.fY.cap,.slice L.cM.a L.cM.len L.cM.cap,.map (some L.lm)]
def jO (x:eH×Th):List Value:=[.pointer (some ⟨x.1.c.p,0,none⟩),.slice x.1.h.a x.1.h.len x.1.h.cap,og x.2.ph]
def ie (ts:List eH)(bS:List Th):List Value:=(ts.zip bS).flatMap jO
theorem Gx:∀{ts:List eH} {bS:List Th},ts.length=bS.length->(ie ts bS).length=bS.length*3
 | [],[],_=>rfl
 | x::ts,h::bS,e=>by
  have e1:ie (x::ts) (h::bS)=jO (x,h)++ie ts bS:=rfl;have a:(jO (x,h)).length=3:=rfl;rw[e1,zJ,Gx (by simpa using e),a,zQ];omega
 | [],_::_,e=>by simp at e
 | _::_,[],e=>by simp at e
theorem DD:∀{ts:List eH} {bS:List Th} {i:Nat} {x:eH} {h:Th},ts[i]?=some x->bS[i]?=some h->∀{d:Nat},d<3->(ie ts bS)[3*i+d]?=(jO (x,h))[d]?
 | [],_,_,_,_,h1,_,_,_=>by simp at h1
 | _::_,[],_,_,_,_,h2,_,_=>by simp at h2
 | y::ts,g::bS,0,x,h,h1,h2,d,hd=>by
  have e1:ie (y::ts) (g::bS)=jO (y,g)++ie ts bS:=rfl;have a:(jO (y,g)).length=3:=rfl;simp at h1 h2;subst h1;subst h2;rw[e1,zg O];congr 1;omega
 | y::ts,g::bS,i+1,x,h,h1,h2,d,hd=>by
  have e1:ie (y::ts) (g::bS)=jO (y,g)++ie ts bS:=rfl;have a:(jO (y,g)).length=3:=rfl;rw[e1,zi O,a,show 3*(i+1)+d-3=3*i+d by omega];exact DD (by simpa using h1) (by simpa using h2) hd
theorem AT:∀{ts:List eH} {bS:List Th} {i:Nat} {x:eH} {h:Th},ts[i]?=some x->bS[i]?=some h->∀{d:Nat} {v:Value} {x':eH} {h':Th},d<3->jO (x',h')=(jO (x,h)).set d v →
 (ie ts bS).set (3*i+d) v=ie (ts.set i x') (bS.set i h')
 | [],_,_,_,_,h1,_,_,_,_,_,_,_=>by simp at h1
 | _::_,[],_,_,_,_,h2,_,_,_,_,_,_=>by simp at h2
 | y::ts,g::bS,0,x,h,h1,h2,d,v,x',h',hd,e=>by
  have e1:ie (y::ts) (g::bS)=jO (y,g)++ie ts bS:=rfl;have a:ie ((y::ts).set 0 x') ((g::bS).set 0 h')=jO (x',h')++ie ts bS:=rfl;have b:(jO (y,g)).length=3:=rfl;simp at h1 h2;subst h1;subst h2;rw[e1,a,List.set_append_left _ _ O,e,show 3*0+d=d by omega]
 | y::ts,g::bS,i+1,x,h,h1,h2,d,v,x',h',hd,e=>by
  have e1:ie (y::ts) (g::bS)=jO (y,g)++ie ts bS:=rfl;have a:ie ((y::ts).set (i+1) x') ((g::bS).set (i+1) h')=jO (y,g)++ie (ts.set i x') (bS.set i h'):=rfl;have b:(jO (y,g)).length=3:=rfl;rw[e1,a,wL _ _ O,b,show 3*(i+1)+d-3=3*i+d by omega];rw[AT (by simpa using h1) (by simpa using h2) hd e]
def pz (y:Option Lay)(a:Option AR):Hp->Rg->Prop:=λσ F=>match y,a with
 | some Y,some A=>cX σ F Y A (cG A Y)
 | _,_=>True
def qI (x:Option eH)(h:Option Th)(tb:List bX)(bud:Nat):Hp->Rg->Prop:=λσ F=>match x,h with
 | some x,some h=>eC σ F x.c tb bud h.ls
 | _,_=>True
def qb (x:Option eH)(h:Option Th):Hp->Rg->Prop:=λσ F=>match x,h with
 | some x,some h=>im x.h h.bP σ F
 | _,_=>True
def CH (H:Hw)(L:dP):lx->Hp->Rg->Prop
 | .hd=>iH L.p (uC L H.cf)
 | .dF=>cP L.dF 3 (gp H.tb)
 | .sp=>λσ F=>dD σ F L.hs H.sp
 | .fY=>cP L.fY 1 (eY (L.ys.map (·.p)))
 | .cM=>bR L.cM 3 (ie L.ts H.bS)
 | .live=>ka L.lm .i64 (.ag 4) H.live
 | .ar k=>pz L.ys[k]? H.bT[k]?
 | .ca t=>qI L.ts[t]? H.bS[t]? H.tb H.cf.dB
 | .hn t=>qb L.ts[t]? H.bS[t]?
theorem pz.loc (y:Option Lay)(a:Option AR):dR (pz y a):=by
 intro σ σ' F G h hz hs;unfold pz at *;split at h
 ·exact cX.loc _ _ _ _ h hz hs
 ·trivial
theorem qI.loc (x:Option eH)(h:Option Th)(tb:List bX)(bud:Nat):dR (qI x h tb bud):=by
 intro σ σ' F G h hz hs;unfold qI at *;split at h
 ·exact eC.loc _ _ _ _ h hz hs
 ·trivial
theorem qb.loc (x:Option eH)(h:Option Th):dR (qb x h):=by
 intro σ σ' F G h hz hs;unfold qb at *;split at h
 ·exact im.loc _ _ _ _ _ _ h hz hs
 ·trivial
theorem CH.loc {H:Hw}{L:dP}:∀i,dR (CH H L i)
 | .hd=>iH.loc _ _
 | .dF=>cP.loc _ _ _
 | .sp=>dD.loc
 | .fY=>cP.loc _ _ _
 | .cM=>bR.loc _ _ _
 | .live=>ka.loc _ _ _ _
 | .ar k=>pz.loc _ _
 | .ca t=>qI.loc _ _ _ _
 | .hn t=>qb.loc _ _
structure HS (L:dP) (H:Hw):Prop where
 ys:L.ys.length=H.bT.length
 hs:∀Y∈L.ys,Y.hs=L.hs
 ts:L.ts.length=H.bS.length
 a1:1<=H.bT.length
 a2:H.bT.length<=4
 t1:1<=H.bS.length
 t2:H.bS.length<=4
 tb:∀A∈H.bT,A.tb=H.tb
structure HH (σ:Hp) (F:Rg) (L:dP) (H:Hw):Prop where
 s:HS L H
 sep:Sep (CH H L) σ F
 g:Gl σ
 gd:Gd σ
 o:jh F
 o2:¬F 1
variable {σ:Hp}{F:Rg}{L:dP}{H:Hw}{t k:Nat}
theorem HH.bK (h:HH σ F L H){σ':Hp}(e:bO σ σ'):HH σ' F L H:=⟨h.s,(Sep.loc CH.loc).bK h.sep e,h.g.bK e,h.gd.bK e,h.o,h.o2⟩
theorem HH.bU (h:HH σ F L H){σ':Hp}{T:Rg}(e:Ext T σ σ')(hT:∀b,b<σ.size->F b->¬T b)(hg:jh T)(hg2:¬T 1):HH σ' F L H:=⟨h.s,(Sep.loc CH.loc).bU h.sep e hT,h.g.bU e hg,h.gd.bU e hg2,h.o,h.o2⟩
theorem BG {σ:Hp}(g:Gd σ):1<σ.size:=g.lt
theorem HH.mono (h:HH σ F L H){G:Rg}(hs:∀b,b<σ.size->F b->G b)(o:jh G)(o2:¬G 1):HH σ G L H:=⟨h.s,(Sep.loc CH.loc).mono h.sep hs,h.g,h.gd,o,o2⟩
theorem HH.oG (h:HH σ F L H):jh (Grow F σ):=h.o.grow h.g
theorem HH.rl (h:HH σ F L H):¬Grow F σ 1:=λa=>by
 rcases a with a|a
 ·exact h.o2 a
 ·have:=BG h.gd;omega
theorem HH.sub (h:HH σ F L H){G:Rg}(hs:∀b,b<σ.size->F b->G b)(hg:∀b,G b->F b\/σ.size<=b):HH σ G L H:=
 h.mono hs (h.oG.sub hg) λa=>h.rl (hg _ a)
theorem HH.xz {v v':Hp}{G T:Rg}{L0:dP}{H0:Hw}(h0:HH σ F L0 H0)(h:HH v G L H)(e:Ext T v v')(hT:∀b,T b->σ.size<=b)(hG:∀b,b<v.size->G b->¬T b):HH v' G L H:=
 h.bU e hG (h0.oG.sub λb a=>.inr (hT b a)) λa=>h0.rl (.inr (hT _ a))
theorem HH.grown {σ':Hp}{R:Rg}{L':dP}{H':Hw}(h:HH σ F L H)(h':HH σ' R L' H')(hr:∀b,b<σ'.size->R b->Grow F σ b):HH σ' (Grow F σ) L' H':=h'.mono hr h.oG h.rl
theorem HH.cut (h:HH σ F L H):HH σ (Cut F σ) L H:=h.sub (λb a d=>⟨d,a⟩) λb a=>.inl a.1
theorem HH.mN (h:HH σ F L H)(i:lx):∃G:Rg,(∀b,G b->F b)/\CH H L i σ G/\(∀j,j≠i->∃D:Rg,(∀b,D b->F b)/\(∀b,D b->¬G b)/\CH H L j σ D) ∧
 ∀(σ':Hp) (H':Hw) (L':dP) (G':Rg),HS L' H'->(∀j,j≠i->CH H' L' j=CH H L j)->Ext G σ σ'->(∀b,G' b->Grow G σ b)->CH H' L' i σ' G' →
  Ext F σ σ'/\HH σ' (λb=>F b/\b<σ.size/\¬G b\/G' b) L' H':=by
 obtain⟨G,p,x,hd,m⟩:=h.sep.kB CH.loc i;refine⟨G,p,x,hd,λσ' H' L' G' w u e s y=>?_⟩;have r:=e.sub p;have d:∀b,(F b/\b<σ.size/\¬G b\/G' b)->Grow F σ b:=λb a=>by
  rcases a with a|a
  ·exact .inl a.1
  ·exact(s b a).imp (p b) id
 refine⟨r,w,m σ' (CH H' L') G' u e s y (CH.loc _),h.g.bU r h.o,h.gd.bU r h.o2,λb a=>(h.o.grow h.g) b (d b a),λa=>?_⟩;rcases d _ a with h1|h1
 ·exact h.o2 h1
 ·have:=BG h.gd;omega
theorem _root_.Go.Vc.Sep.tY {L:Type}{C:L->Hp->Rg->Prop}{σ:Hp}{F:Rg}(hC:∀i,dR (C i))(h:Sep C σ F)(i j:L)(hij:i≠j)(N:Rg)(hN:∀b,b<σ.size->F b->¬N b):∃G D:Rg,(∀b,G b->F b)/\(∀b,D b->F b)/\(∀b,G b->¬D b)/\C i σ G/\C j σ D/\(∀m,m≠i->m≠j->∃E:Rg,(∀b,E b->F b)/\(∀b,E b->¬(G b\/D b))/\C m σ E) ∧
 ∀(σ':Hp) (C':L->Hp->Rg->Prop) (G' D':Rg),(∀k,k≠i->k≠j->C' k=C k)->Ext (λb=>G b\/D b) σ σ'->(∀b,G' b->(G b\/D b)\/N b)->(∀b,D' b->(G b\/D b)\/N b)->(∀b,G' b->¬D' b)->C' i σ' G'->C' j σ' D'->(∀k,dR (C' k)) →
 Sep C' σ' λb=>F b/\b<σ.size/\¬(G b\/D b)\/G' b\/D' b:=by
 obtain⟨ρ,h⟩:=h
 let G:Rg:=λb=>F b/\ρ b=i
 let D:Rg:=λb=>F b/\ρ b=j
 refine⟨G,D,λb a=>a.1,λb a=>a.1,λb u w=>hij (u.2.symm.trans w.2),h i,h j,λm u w=>⟨λb=>F b/\ρ b=m,λb a=>a.1,λb a d=>d.elim (λx=>u (a.2.symm.trans x.2)) λx=>w (a.2.symm.trans x.2),h m⟩,λσ' C' G' D' J e B z hd A H y=>?_⟩
 open Classical in
 refine⟨λb=>if G' b then i else if D' b then j else ρ b,λk=>?_⟩
 by_cases hki:k=i
 ·subst hki;exact(y _).mono A λb _ a=>⟨.inr (.inl a),zB a⟩
 by_cases hkj:k=j
 ·subst hkj;exact(y _).mono H λb _ a=>⟨.inr (.inr a),by show(if G' b then i else if D' b then k else ρ b)=k;rw[zA λd=>hd b d a,zB a]⟩
 ·rw[J k hki hkj];refine hC k _ _ _ _ (h k) e.1 λb a g=>?_;have s:¬(G b\/D b):=by
   rintro(d|d)
   ·exact hki (g.2.symm.trans d.2)
   ·exact hkj (g.2.symm.trans d.2)
  have p:¬G' b:=λd=>(B b d).elim s (hN b a g.1);have r:¬D' b:=λd=>(z b d).elim s (hN b a g.1);exact⟨⟨.inl ⟨g.1,a,s⟩,by show(if G' b then i else if D' b then j else ρ b)=k;rw[zA p,zA r];exact g.2⟩,e.2 b a s⟩
theorem HH.qm (h:HH σ F L H)(i j:lx)(hij:i≠j)(N:Rg)(hN:∀b,b<σ.size->F b->¬N b)(oN:jh N)(oN2:¬N 1):∃G D:Rg,(∀b,G b->F b)/\(∀b,D b->F b)/\(∀b,G b->¬D b)/\CH H L i σ G/\CH H L j σ D/\(∀m,m≠i->m≠j->∃E:Rg,(∀b,E b->F b)/\(∀b,E b->¬(G b\/D b))/\CH H L m σ E) ∧
 ∀(σ':Hp) (H':Hw) (L':dP) (G' D':Rg),HS L' H'->(∀m,m≠i->m≠j->CH H' L' m=CH H L m)->Ext (λb=>G b\/D b) σ σ'->(∀b,G' b->(G b\/D b)\/N b)->(∀b,D' b->(G b\/D b)\/N b)->(∀b,G' b->¬D' b)->CH H' L' i σ' G'->CH H' L' j σ' D' →
  Ext F σ σ'/\HH σ' (λb=>F b/\b<σ.size/\¬(G b\/D b)\/G' b\/D' b) L' H':=by
 obtain⟨G,D,u,s,hd,J,K,p,d⟩:=h.sep.tY CH.loc i j hij N hN;refine⟨G,D,u,s,hd,J,K,p,λσ' H' L' G' D' C P e A z w B M=>?_⟩;have y:Ext F σ σ':=e.sub λb a=>a.elim (u b) (s b);have r:∀b,(F b/\b<σ.size/\¬(G b\/D b)\/G' b\/D' b)->F b\/N b:=λb a=>by
  rcases a with a|a|a
  ·exact .inl a.1
  ·exact(A b a).imp (λx=>x.elim (u b) (s b)) id
  ·exact(z b a).imp (λx=>x.elim (u b) (s b)) id
 refine⟨y,C,d σ' (CH H' L') G' D' P e A z w B M CH.loc,h.g.bU y h.o,h.gd.bU y h.o2,λb a=>(r b a).elim (h.o b) (oN b),λa=>?_⟩;exact(r _ a).elim h.o2 oN2
theorem HH.nJ (h:HH σ F L H):jh (λb=>σ.size<=b)/\¬(σ.size<=1):=⟨h.oG.sub λb a=>.inr a,λa=>h.rl (.inr a)⟩
theorem HH.pR (h:HH σ F L H)(i j:lx)(hij:i≠j):∃G D:Rg,(∀b,G b->F b)/\(∀b,D b->F b)/\(∀b,G b->¬D b)/\CH H L i σ G/\CH H L j σ D/\(∀m,m≠i->m≠j->∃E:Rg,(∀b,E b->F b)/\(∀b,E b->¬(G b\/D b))/\CH H L m σ E) ∧
 ∀(σ':Hp) (H':Hw) (L':dP) (G' D':Rg),HS L' H'->(∀m,m≠i->m≠j->CH H' L' m=CH H L m)->Ext (λb=>G b\/D b) σ σ'->(∀b,G' b->(G b\/D b)\/σ.size<=b)->(∀b,D' b->(G b\/D b)\/σ.size<=b)->(∀b,G' b->¬D' b)->CH H' L' i σ' G'->CH H' L' j σ' D' →
  Ext F σ σ'/\HH σ' (λb=>F b/\b<σ.size/\¬(G b\/D b)\/G' b\/D' b) L' H':=
 h.qm i j hij _ (λb a _=>O) h.nJ.1 h.nJ.2
theorem HH.hd (h:HH σ F L H):bW σ L.p (uC L H.cf):=by obtain⟨G,b,a⟩:=h.sep.get .hd;exact a.2
theorem HH.jW (h:HH σ F L H):cP L.dF 3 (gp H.tb) σ F:=by
 obtain⟨G,d,a⟩:=h.sep.get .dF;exact aH.mono a λb _ a=>d b a
theorem HH.oY (h:HH σ F L H):L.dF.len=H.tb.length:=by
 have:=h.jW.1;rw[KG]at this;omega
theorem HH.nK (h:HH σ F L H):cP L.fY 1 (eY (L.ys.map (·.p))) σ F:=by
 obtain⟨G,d,a⟩:=h.sep.get .fY;exact aH.mono a λb _ a=>d b a
theorem HH.j5 (h:HH σ F L H):L.fY.len=H.bT.length:=by
 have:=h.nK.1;have:=h.s.ys;simp[eY]at *;omega
theorem HH.kK (h:HH σ F L H):cP L.cM 3 (ie L.ts H.bS) σ F:=by
 obtain⟨G,d,a⟩:=h.sep.get .cM;exact aH.mono (bR.fP a) λb _ a=>d b a
theorem HH.jA (h:HH σ F L H):L.cM.len=H.bS.length:=by
 have:=h.kK.1;rw[Gx h.s.ts]at this;omega
theorem HH.j0 (h:HH σ F L H):dN σ L.lm .i64 (.ag 4) H.live:=by obtain⟨G,b,a⟩:=h.sep.get .live;exact a.2
theorem HH.xE (h:HH σ F L H):dD σ F L.hs H.sp:=by
 obtain⟨G,d,a⟩:=h.sep.get .sp;exact dR.mono dD.loc a λb _ a=>d b a
theorem HH.ar (h:HH σ F L H){A:AR}(hk:H.bT[k]?=some A):∃Y,L.ys[k]?=some Y/\Y.hs=L.hs/\cX σ F Y A (cG A Y):=by
 have g:=(cS.1 hk).1;have d:L.ys[k]?=some (L.ys[k]'(by rw[h.s.ys];exact g)):=cL _;obtain⟨G,e,a⟩:=h.sep.get (.ar k);simp only[CH,hk,d,pz]at a;exact⟨_,d,h.s.hs _ (zE d),a.mono λb _ a=>e b a⟩
theorem HH.rA (h:HH σ F L H){Y:Lay}(hy:L.ys[k]?=some Y){K:Option Addr->Prop}(hK:K (some ⟨Y.p,0,none⟩)):Ix L.fY.a L.fY.len (k:Int) 1 λa=>fX a σ K:=
 Ck h.nK (by simp[hy]) hK
theorem HH.th (h:HH σ F L H)(ht:t<H.bS.length):∃x g,L.ts[t]?=some x/\H.bS[t]?=some g:=⟨L.ts[t]'(by rw[h.s.ts];exact ht),H.bS[t],cL _,cL _⟩
theorem Us {s:Sl}{ts:List eH}{bS:List Th}(h:cP s 3 (ie ts bS) σ F){x:eH}{g:Th}(hx:ts[t]?=some x)(hg:bS[t]?=some g){d:Nat}(hd:d<3){v:Value}(hv:(jO (x,g))[d]?=some v):∃b o,s.a=some ⟨b,o,none⟩/\cell σ ⟨b,o+(3*t+d),none⟩=some v:=
 h.cell ((DD hx hg hd).trans hv)
theorem Es {s:Sl}{ts:List eH}{bS:List Th}(hs:cP s 3 (ie ts bS) σ F)(hl:ts.length=bS.length){x:eH}{g:Th}(hx:ts[t]?=some x)(hg:bS[t]?=some g){d:Nat}(hd:d<3){v:Value}(hv:(jO (x,g))[d]?=some v){K:Addr->Prop}
 (hK:∀b o,s.a=some ⟨b,o,none⟩->cell σ (Addr.add ⟨b,o+3*t,none⟩ d)=some v->K ⟨b,o+3*t,none⟩):Ix s.a s.len (t:Int) 3 K:=by
 have m:=(cS.1 hg).1;have e:=hs.1;rw[Gx hl]at e;obtain⟨b,o,i,j⟩:=Us hs hx hg hd hv;rw[i];refine ix O O ?_;rw[add_lit,show o+(t:Int).toNat*3=o+3*t by omega];exact hK b o i (by rw[add_lit,show o+3*t+d=o+(3*t+d) by omega];exact j)
theorem HH.Jl (h:HH σ F L H){x:eH}{g:Th}(hx:L.ts[t]?=some x)(hg:H.bS[t]?=some g){d:Nat}(hd:d<3){v:Value}(hv:(jO (x,g))[d]?=some v){K:Addr->Prop}
 (hK:∀b o,cell σ (Addr.add ⟨b,o+3*t,none⟩ d)=some v->K ⟨b,o+3*t,none⟩):Ix L.cM.a L.cM.len (t:Int) 3 K:=
 Es h.kK h.s.ts hx hg hd hv λb o _ e=>hK b o e
theorem HH.tS (h:HH σ F L H){x:eH}{g:Th}(hx:L.ts[t]?=some x)(hg:H.bS[t]?=some g){K:Sl->Prop}(hK:K x.h):Ix L.cM.a L.cM.len (t:Int) 3 λa=>jB (a.add 1) σ K:=
 h.Jl hx hg (d:=1) O rfl λb o e=>ox e hK
theorem HH.tR (h:HH σ F L H){x:eH}{g:Th}(hx:L.ts[t]?=some x)(hg:H.bS[t]?=some g){K:Value->Prop}(hK:K (og g.ph)):Ix L.cM.a L.cM.len (t:Int) 3 λa=>wA (a.add 2) σ K:=
 h.Jl hx hg (d:=2) O rfl λb o e=>⟨_,e,hK⟩
theorem HS.eA (h:HS L H){bS:List Th}{ts:List eH}(e:ts.length=bS.length)(e2:bS.length=H.bS.length):HS {L with ts:=ts} {H with bS:=bS}:=⟨h.ys,h.hs,e,h.a1,h.a2,by rw[e2];exact h.t1,by rw[e2];exact h.t2,h.tb⟩
theorem HS.cB (h:HS L H){A:AR}{sp:Sp}(e:A.tb=H.tb):HS L {H.cB k A with sp:=sp}:=⟨by simp[Hw.cB,h.ys],h.hs,h.ts,by simp[Hw.cB,h.a1],by simp[Hw.cB,h.a2],h.t1,h.t2,λB a=>by
 rcases wQ a with h1|h1
 ·exact h.tb B h1
 ·subst h1;exact e⟩
theorem E9 {A:AR}:∀j,j≠lx.ar k->CH (H.cB k A) L j=CH H L j:=by
 intro j hj;cases j<;>try rfl
 rename_i m;have a:m≠k:=λe=>hj (by rw[e]);simp only[CH,Hw.cB,zj (Ne.symm a)]
theorem FO {sp:Sp}:∀j,j≠lx.sp->CH {H with sp:=sp} L j=CH H L j:=by
 intro j hj;cases j<;>first|rfl|exact absurd rfl hj
theorem WnP {l:List (Int×Bk)}:∀j,j≠lx.live->CH {H with live:=l} L j=CH H L j:=by
 intro j hj;cases j<;>first|rfl|exact absurd rfl hj
theorem HH.wN (h:HH σ F L H){A:AR}(hk:H.bT[k]?=some A):∃(Y:Lay) (G:Rg),L.ys[k]?=some Y/\Y.hs=L.hs/\(∀b,G b->F b)/\cX σ G Y A (cG A Y)/\∀(σ':Hp) (A':AR) (G':Rg),A'.tb=A.tb->Ext G σ σ'->(∀b,G' b->Grow G σ b)->cX σ' G' Y A' (cG A' Y) →
 Ext F σ σ'/\HH σ' (λb=>F b/\b<σ.size/\¬G b\/G' b) L (H.cB k A'):=by
 have i:=(cS.1 hk).1;have d:L.ys[k]?=some (L.ys[k]'(by rw[h.s.ys];exact i)):=cL _;generalize (L.ys[k]'(by rw[h.s.ys];exact i))=Y at d;obtain⟨G,r,j,_,a⟩:=h.mN (.ar k);simp only[CH,hk,d,pz]at j;refine⟨Y,G,d,h.s.hs _ (zE d),r,j,λσ' A' G' g e p m=>?_⟩;refine a σ' (H.cB k A') L G' (h.s.cB (sp:=H.sp) (g.trans (h.s.tb A (zE hk)))) E9 e p ?_;simp only[CH,Hw.cB,d,zM i,pz];exact m
theorem HH.mf (h:HH σ F L H){A:AR}(hk:H.bT[k]?=some A):∃(Y:Lay) (G D:Rg),L.ys[k]?=some Y/\Y.hs=L.hs/\W2 σ G D Y A (cG A Y) H.sp/\∀(σ':Hp) (A':AR) (sp':Sp) (G' D':Rg),A'.tb=A.tb->Ext (gJ G D) σ σ'->Fits σ G D G' D'->W2 σ' G' D' Y A' (cG A' Y) sp' →
 Ext F σ σ'/\HH σ' (Grow F σ) L {H.cB k A' with sp:=sp'}:=by
 have K:=(cS.1 hk).1;have i:L.ys[k]?=some (L.ys[k]'(by rw[h.s.ys];exact K)):=cL _;generalize (L.ys[k]'(by rw[h.s.ys];exact K))=Y at i;obtain⟨G,D,J,C,hd,N,y,_,u⟩:=h.pR (.ar k) .sp (by intro e;cases e);simp only[CH,hk,i,pz]at N;have y:dD σ D L.hs H.sp:=y;have p:=h.s.hs _ (zE i);refine⟨Y,G,D,i,p,⟨N,by rw[p];exact y,hd,h.g,h.o.sub J,h.o.sub C⟩,λσ' A' sp' G' D' E e M z=>?_⟩;have r:∀b,G' b->(G b\/D b)\/σ.size<=b:=λb x=>(M.1 b x).imp .inl id;have w:∀b,D' b->(G b\/D b)\/σ.size<=b:=λb x=>.inl (.inr (M.2 b x));have P:∀m,m≠lx.ar k->m≠lx.sp->CH {H.cB k A' with sp:=sp'} L m=CH H L m:=λm B Q=>
  (E9 (H:={H with sp:=sp'}) (L:=L) (A:=A') m B).trans (FO m Q)
 have U:CH {H.cB k A' with sp:=sp'} L (.ar k) σ' G':=by
  simp only[CH,Hw.cB,i,zM K,pz];exact z.a
 have S:CH {H.cB k A' with sp:=sp'} L .sp σ' D':=by
  show dD σ' D' L.hs sp';rw[←p];exact z.s
 obtain⟨R,B⟩:=u σ' {H.cB k A' with sp:=sp'} L G' D' (h.s.cB (E.trans (h.s.tb A (zE hk)))) P e r w z.d U S;refine⟨R,h.grown B λb x j=>?_⟩;rcases j with j|j|j
 ·exact .inl j.1
 ·exact(r b j).imp (λi=>i.elim (J b) (C b)) id
 ·exact(w b j).imp (λi=>i.elim (J b) (C b)) id
theorem HH.wk (h:HH σ F L H):∃G:Rg,(∀b,G b->F b)/\dD σ G L.hs H.sp/\jh G/\∀(σ':Hp) (sp':Sp),Ext G σ σ'->dD σ' (Grow G σ) L.hs sp'->Ext F σ σ'/\HH σ' (Grow F σ) L {H with sp:=sp'}:=by
 obtain⟨G,g,p,_,a⟩:=h.mN .sp;refine⟨G,g,p,h.o.sub g,λσ' sp' e hs=>?_⟩;obtain⟨m,j⟩:=a σ' {H with sp:=sp'} L (Grow G σ) ⟨h.s.ys,h.s.hs,h.s.ts,h.s.a1,h.s.a2,h.s.t1,h.s.t2,h.s.tb⟩ FO e (λb i=>i) hs;exact⟨m,h.grown j λb i d=>by
  rcases d with d|d
  ·exact .inl d.1
  ·exact d.imp (g b) id⟩
theorem HH.sS (h:HH σ F L H):F L.lm/\∀(σ':Hp) (l:List (Int×Bk)),QJ σ σ' L.lm->dN σ' L.lm .i64 (.ag 4) l->Ext F σ σ'/\HH σ' F L {H with live:=l}:=by
 obtain⟨G,i,d,_,a⟩:=h.mN .live;have d:ka L.lm .i64 (.ag 4) H.live σ G:=d;refine⟨i _ d.1,λσ' l m p=>?_⟩;obtain⟨r,j⟩:=a σ' {H with live:=l} L G ⟨h.s.ys,h.s.hs,h.s.ts,h.s.a1,h.s.a2,h.s.t1,h.s.t2,h.s.tb⟩ WnP (m.ext.sub λb g=>by rw[g];exact d.1) (λb g=>.inl g) ⟨d.1,p⟩;exact⟨r,j.mono (λb _ e=>by
  rcases e with e|e
  ·exact e.1
  ·exact i b e) h.o h.o2⟩
theorem HH.qh (h:HH σ F L H){x:eH}{g:Th}(hx:L.ts[t]?=some x)(hg:H.bS[t]?=some g):∃G:Rg,(∀b,G b->F b)/\eC σ G x.c H.tb H.cf.dB g.ls/\∀(σ':Hp) (ls:List Li) (Y':hO) (G':Rg),Y'.p=x.c.p->Ext G σ σ'->(∀b,G' b->Grow G σ b)->eC σ' G' Y' H.tb H.cf.dB ls →
 Ext F σ σ'/\HH σ' (λb=>F b/\b<σ.size/\¬G b\/G' b) {L with ts:=L.ts.set t {x with c:=Y'}} {H with bS:=H.bS.set t {g with ls:=ls}}:=by
 have r:=(cS.1 hx).1;have i:=(cS.1 hg).1;obtain⟨G,E,z,_,a⟩:=h.mN (.ca t);simp only[CH,hx,hg,qI]at z;refine⟨G,E,z,λσ' ls Y' G' A e y B=>?_⟩;have w:ie (L.ts.set t {x with c:=Y'}) (H.bS.set t {g with ls:=ls})=ie L.ts H.bS:=by
  have D:(ie L.ts H.bS).set (3*t+0) (.pointer (some ⟨x.c.p,0,none⟩))=ie L.ts H.bS:=Qt (DD hx hg O);rw[←D];exact(AT hx hg (d:=0) O (by simp[jO,A])).symm
 refine a σ' {H with bS:=H.bS.set t {g with ls:=ls}} {L with ts:=L.ts.set t {x with c:=Y'}} G' (h.s.eA (by simp[h.s.ts]) aA) (λj C=>?_) e y ?_
 ·cases j<;>try rfl
  ·simp only[CH,w]
  ·rename_i m;have u:m≠t:=λe=>C (by rw[e]);simp only[CH,zj (Ne.symm u)]
  ·rename_i m;by_cases u:m=t
   ·subst u;simp only[CH,zM r,zM i,hx,hg];rfl
   ·simp only[CH,zj (Ne.symm u)]
 ·simp only[CH,zM r,zM i,qI];exact B
theorem HH.sM (h:HH σ F L H){x:eH}{g:Th}(hx:L.ts[t]?=some x)(hg:H.bS[t]?=some g)(N:Rg)(hN:∀b,b<σ.size->F b->¬N b)(oN:jh N)(oN2:¬N 1):∃G D:Rg,(∀b,G b->F b)/\(∀b,D b->F b)/\(∀b,G b->¬D b)/\im x.h g.bP σ G/\bR L.cM 3 (ie L.ts H.bS) σ D/\(∃E:Rg,(∀b,E b->¬G b)/\(∀b,E b->¬D b)/\iH L.p (uC L H.cf) σ E) ∧
 ∀(σ':Hp) (s:Sl) (bs:List Bt) (G' D':Rg),Ext (λb=>G b\/D b) σ σ'->(∀b,G' b->(G b\/D b)\/N b)->(∀b,D' b->(G b\/D b)\/N b)->(∀b,G' b->¬D' b)->im s bs σ' G'->bR L.cM 3 ((ie L.ts H.bS).set (3*t+1) (.slice s.a s.len s.cap)) σ' D' →
  Ext F σ σ'/\HH σ' (λb=>F b/\b<σ.size/\¬(G b\/D b)\/G' b\/D' b) {L with ts:=L.ts.set t {x with h:=s}} {H with bS:=H.bS.set t {g with bP:=bs}}:=by
 have j:=(cS.1 hx).1;have u:=(cS.1 hg).1;obtain⟨G,D,W,U,hd,M,z,i,r⟩:=h.qm (.hn t) .cM (by intro e;cases e) N hN oN oN2;simp only[CH,hx,hg,qb]at M;have z:bR L.cM 3 (ie L.ts H.bS) σ D:=z;obtain⟨E,_,P,B⟩:=i .hd (by intro e;cases e) (by intro e;cases e);refine⟨G,D,W,U,hd,M,z,⟨E,λb K hx=>P b K (.inl hx),λb K hx=>P b K (.inr hx),B⟩,λσ' s bs G' D' e A y C Q V=>?_⟩;have J:ie (L.ts.set t {x with h:=s}) (H.bS.set t {g with bP:=bs})=(ie L.ts H.bS).set (3*t+1) (.slice s.a s.len s.cap):=(AT hx hg (d:=1) O (by simp[jO])).symm;refine r σ' {H with bS:=H.bS.set t {g with bP:=bs}} {L with ts:=L.ts.set t {x with h:=s}} G' D' (h.s.eA (by simp[h.s.ts]) aA) (λm S R=>?_) e A y C ?_ ?_
 ·cases m<;>first|rfl|exact absurd rfl R|skip
  ·rename_i m;by_cases w:m=t
   ·subst w;simp only[CH,zM j,zM u,hx,hg];rfl
   ·simp only[CH,zj (Ne.symm w)]
  ·rename_i m;have w:m≠t:=λe=>S (by rw[e]);simp only[CH,zj (Ne.symm w)]
 ·simp only[CH,zM j,zM u,qb];exact Q
 ·simp only[CH,J];exact V
theorem HH.sU (h:HH σ F L H){x:eH}{g:Th}(hx:L.ts[t]?=some x)(hg:H.bS[t]?=some g)(p:Option Ph){K:aP}(hK:∀σ',Ext F σ σ'->HH σ' F L {H with bS:=H.bS.set t {g with ph:=p}}->K σ') :
 Ix L.cM.a L.cM.len (t:Int) 3 λa=>And (jM (og p)) (dG (a.add 2) (og p) σ K):=by
 have J:=(cS.1 hx).1;have u:=(cS.1 hg).1;have A:=h.jA;obtain⟨G,M,w,_,i⟩:=h.mN .cM;have w:bR L.cM 3 (ie L.ts H.bS) σ G:=w;have C:=Gx h.s.ts;obtain⟨b,y⟩:∃b,L.cM.a=some ⟨b,0,none⟩:=by
  rcases w.2 with⟨h0,_⟩|⟨b,_,_,ha,_⟩
  ·omega
  ·exact⟨b,ha⟩
 rw[y];refine ix O O ⟨yb p,?_⟩;refine w.st (j:=3*t+2) O (λP r=>by rw[y]at r;cases r;rw[add_lit,add_lit];congr 1;omega) λσ' e D=>?_;have z:ie L.ts (H.bS.set t {g with ph:=p})=(ie L.ts H.bS).set (3*t+2) (og p):=by
  have:=AT hx hg (d:=2) (v:=og p) (x':=x) (h':={g with ph:=p}) O (by simp[jO]);rw[this,Qt hx]
 obtain⟨N,B⟩:=i σ' {H with bS:=H.bS.set t {g with ph:=p}} L G (h.s.eA (ts:=L.ts) (by simp[h.s.ts]) aA) (λj E=>by
  cases j<;>first|rfl|exact absurd rfl E|skip
  ·rename_i m;by_cases hm:t=m
   ·subst hm;simp only[CH,zM u,hx,hg];rfl
   ·simp only[CH,zj hm]
  ·rename_i m;by_cases hm:t=m
   ·subst hm;simp only[CH,zM u,hx,hg];rfl
   ·simp only[CH,zj hm]) e (λb y=>.inl y) (by simp only[CH,z];exact D)
 exact hK σ' N (B.mono (λb _ hx=>by
  rcases hx with hx|hx
  ·exact hx.1
  ·exact M b hx) h.o h.o2)
end Go.Ar
namespace Go.Ar
open Go Go.Vc Go.Proofs
open Go.Bu (Zi QR Zz iX)
variable {σ:Hp}{F H:Rg}{p hs:Nat}{A:AR}{sp:Sp}{Y:Lay}{T:Nat->Hp->Rg->Prop}
theorem Wi6 {s:Sl}{tb:List bX}(h:cP s 3 (gp tb) σ F)(hl:tb.length<=40){R:Sl->Hp->Prop}(hR:∀s' σ',bO σ σ'->cP s' 3 (gp tb) σ' (λb=>σ.size<=b)->R s' σ'):Wc.c s σ R:=by
 refine Wc.o ?_;have a:=h.1;rw[KG]at a;exact yC h aB rfl Jm aB O λs' σ' _ e d=>hR s' σ' e d.fP
end Go.Ar
namespace Go.Ar
open Go Go.Vc Go.Proofs
variable {σ:Hp}{F:Rg}{L:dP}{H:Hw}{t k:Nat}
theorem Kw (h:HH σ F L H){R:aO}(hR:R true σ):WJ.c (aW L.p) σ R:=by
 refine WJ.o ?_;have b:=h.jA;have a:=h.s.t1;refine bY.intro (cJ rfl (aG (h.hd.rS rfl ?_)));rw[zU aC];exact hR
theorem F0 (h:HH σ F L H)(x:Int){R:aO}(hR:R (decide (0<=x/\x<(H.bS.length:Int))) σ):Y1.c (aW L.p) x σ R:=by
 refine Y1.o ?_;have b:=h.jA;refine bY.intro (cH (λa=>aG (h.hd.rS rfl ?_)) λa=>?_)
 ·have:decide (x<((L.cM.len:Nat):Int))=decide (0<=x/\x<(H.bS.length:Int)):=by rw[decide_eq_decide,b];omega
  simp only[this];exact hR
 ·rw[zb O]at hR;exact hR
theorem Ih (h:HH σ F L H)(t:Nat){R:aN}(hR:R ((H.own t:Nat):Int) σ):ZJ.c (aW L.p) (t:Int) σ R:=by
 refine ZJ.o ?_;have a:=h.j5;have b:=h.s.a1;refine aG (h.hd.rS rfl (nz aC ?_));have:((t:Int).tmod ((L.fY.len:Nat):Int))=((H.own t:Nat):Int):=by rw[Q4 O,a];unfold Hw.own;omega
 simp only[this];exact hR
theorem HC (h:HH σ F L H)(x:Int)(hx9:x<=9223372036854775807){R:aN}(hR:∀σ',bO σ σ'->R (Ye H.bT x) σ'):X2.c (aW L.p) x σ R:=by
 refine X2.o ?_;refine nw (cs:=[.int .i64 x]) λv hz e Q=>Q.we rfl ?_;have P:=h.bK e;by_cases hx:x<0
 ·have:=hR v e;unfold Ye at this;rw[zB hx]at this;exact mh hx this
 refine fH hx (aG (P.hd.rS rfl ?_));have hl:=h.j5;have W:=h.s.a2;refine Wk.o ?_;refine ZP (a:=bN) (λ(z:Int) w=>∃i:Nat,z=(i:Int)/\i<=H.bT.length/\bO σ w/\HH w F L H/\bW w σ.size [.int .i64 x]/\∀j A,j<i->H.bT[j]?=some A->UZ A (x/256)=false) (λz _=>H.bT.length-z.toNat) ⟨0,rfl,O,e,P,Q,λj A g=>O⟩ ?_;rintro z w ⟨i,rfl,Z,K,E,r,b⟩;refine cH (λG=>?_) λJ=>?_
 ·simp only at G;have y:i<H.bT.length:=by omega
  have d:H.bT[i]?=some H.bT[i]:=cL y;generalize H.bT[i]=A at d;obtain⟨Y,V,X,M⟩:=E.ar d;refine E.rA V (Gf (all := #[.pointer (some ⟨Y.p,0,none⟩),.pointer (some ⟨σ.size,0,none⟩)]) (by kernel_rfl) aA ?_);refine Zk.o ?_;refine r.we rfl (nz aB (ar (by rw[Xq O];omega) (by rw[Xq O];omega) ?_));rw[Xq O];refine Tw M (x/256) (cN (λU=>?_) λS=>?_)
  ·have:Ye H.bT x=(i:Int):=by
    unfold Ye;rw[zA hx];have:H.bT.findIdx? (λA=>UZ A (x/256))=some i:=by
     obtain⟨N,rfl⟩:=cS.1 d;exact pj.2 ⟨N,U,λj g=>by rw[b j _ g (cL O)];simp⟩
    rw[this]
   have u:=hR w K;rw[this]at u;exact u
  ·exact bZ (m:=i+1) O O ⟨⟨i+1,rfl,O,K,E,r,λj B g C=>by
    by_cases e:j=i
    ·subst e;rw[d]at C;cases C;exact S
    ·exact b j B O C⟩,O⟩
 ·have D:i=H.bT.length:=by simp only at J;omega
  subst D;have:Ye H.bT x = -1:=by
   unfold Ye;rw[zA hx];have:H.bT.findIdx? (λA=>UZ A (x/256))=none:=by
    rw[wb];intro A d;obtain⟨j,g⟩:=zL d;exact b j A (cS.1 g).1 g
   rw[this]
  have u:=hR w K;rw[this]at u;exact u
theorem JX (h:HH σ F L H){R:Int->Int->Int->Int->Int->Hp->Prop}(hR:∀σ',bO σ σ'->R (H.cf.aF:Int) (H.cf.iv:Int) (H.cf.threads:Int) (H.cf.dB:Int) (H.cf.room:Int) σ'):Yr.c (aW L.p) σ R:=by
 refine Yr.o ?_;refine nw (cs:=[.int .i64 0,.int .i64 0,.int .i64 0,.int .i64 0,.int .i64 0]) λv s e i=>Kw (h.bK e) (cF rfl ?_);have hd:=(h.bK e).hd;refine aG (hd.gD rfl (hd.gD rfl (hd.gD rfl (hd.gD rfl (hd.gD rfl ?_)))));refine i.s1 aA λr o1 g=>g.s1 aA λw o2 m=>m.s1 aA λv3 o3 j=>j.s1 aA λu o4 b=>b.s1 aA λd o5 a=>?_;refine a.rI rfl (a.rI rfl (a.rI rfl (a.rI rfl (a.rI rfl (hR d ?_)))));exact((((e.only o1 (.inr (zC _))).only o2 (.inr (zC _))).only o3 (.inr (zC _))).only o4 (.inr (zC _))).only o5 (.inr (zC _))
theorem IS (h:HH σ F L H)(hl:H.tb.length<=40){R:Sl->Hp->Prop}(hR:∀s σ',bO σ σ'->cP s 3 (gp H.tb) σ' (λb=>σ.size<=b)->R s σ'):Y3.c (aW L.p) σ R:=by
 refine Y3.o ?_;exact Kw h (cF rfl (aG (h.hd.rS rfl (Wi6 h.jW hl hR))))
theorem Lq (h:HH σ F L H){R:Option Addr->Hp->Prop}(hR:R (some ⟨L.hs,0,none⟩) σ):YU.c (aW L.p) σ R:=by
 refine YU.o ?_;exact Kw h (cF rfl (aG (h.hd.rP rfl hR)))
theorem RG (h:HH σ F L H)(x:Int)(hx:x<=9223372036854775807){R:Int->Int->Hp->Prop}(hR:∀σ',bO σ σ'->R (if gX H.sp x=0 then H.sp.wd (x.toNat/8)else 0) (gX H.sp x) σ'):Zx.c (aW L.p) x σ R:=by
 refine Zx.o ?_;exact Lq h (TT h.xE h.g x hx hR)
theorem My (h:HH σ F L H)(gc:Gc σ)(x v:Int)(hx:x<=9223372036854775807){R:aN}(hR:∀σ',Ext F σ σ'->HH σ' (Grow F σ) L {H with sp:=U4 H.sp x v}->R (gX H.sp x) σ'):Zt.c (aW L.p) x v σ R:=by
 refine Zt.o ?_;obtain⟨G,r,j,d,a⟩:=h.wk;refine Lq h (τ j h.g gc x hx v λσ' e b=>?_);obtain⟨m,i⟩:=a σ' _ e b;exact hR σ' m i
theorem Uf (h:HH σ F L H)(ht:t<H.bS.length){R:Value->Hp->Prop}(hR:R (og (kO H t)) σ):W6.c (aW L.p) (t:Int) σ R:=by
 refine W6.o ?_;obtain⟨x,g,d,a⟩:=h.th ht;refine aG (h.hd.rS rfl (h.tS d a ?_));obtain⟨G,i,b⟩:=h.sep.get (.hn t);simp only[CH,d,a,qb]at b;have e:=b.len;unfold kO at hR;rw[a]at hR;simp only at hR;by_cases h0:g.bP=[]
 ·rw[zB h0]at hR;exact cJ (by rw[e,h0];rfl) hR
 ·rw[zA h0]at hR;have:=qC.2 h0;exact cF (by simp only[nk];omega) hR
theorem Ex (h:HH σ F L H)(x size cls:Int)(hx9:x<=9223372036854775807){R:Value->Int->Int->Hp->Prop}(hR:∀σ',Ext F σ σ'->HH σ' F L (VP H x size cls)->R .nilIface x 0 σ'):Y8.c (aW L.p) x size cls σ R:=by
 refine Y8.o ?_;refine nw (cs:=[.int .i64 0,.int .i64 0]) λv J e a=>?_;have j:=h.cut.bK e;refine⟨λu=>bO v u,Ext.refl _ _,aG ⟨some L.lm,λu D=>by rw[add_lit,((j.bK D).hd).cell];rfl,?_⟩⟩;refine HC j x hx9 λG g=>⟨g,?_⟩;have w:=j.bK g;obtain⟨z,d⟩:=w.sS;refine⟨L.lm,_,rfl,w.j0,λs o2 i=>?_⟩;obtain⟨A,C⟩:=d s _ o2 i;have r:bW s σ.size [.int .i64 0,.int .i64 0]:=Wp o2 (g.cA a id) (by have:=z.2;omega);refine r.s1 aA λv3 o3 E=>E.s1 aA λv4 o4 y=>y.rI rfl (y.rI rfl (hR v4 ?_ ?_))
 ·exact(((bO.to (e.trans g)).trans (A.sub λb a=>a.1)).only o3 (.inr (zC _))).only o4 (.inr (zC _))
 ·have m:Ext (· = σ.size) s v4:=o3.ext.trans o4.ext;have B:=h.xz C m (λb a=>O) (λb _ a K=>by have:=a.2;omega);exact B.mono (λb _ a=>a.1) h.o h.o2
theorem AY (h:HH σ F L H)(ht:t<H.bS.length)(k:Nat){s:Sl}{xs:List Int}{X:Rg}(hs:cP s 1 (Wv xs) σ X)(hc:s.len<=s.cap)(hxs:xs≠[])(hX:∀b,b<σ.size->X b->¬F b)(oX:jh X)(oX2:¬X 1)(hlen:∀g,H.bS[t]?=some g->g.bP.length<=1000){R:aP}
 (hR:∀σ' ts',Ext F σ σ'->HH σ' (λb=>Grow F σ b\/X b) {L with ts:=ts'} (Q0 H t k xs)->R σ'):YL.c (aW L.p) (t:Int) (k:Int) s σ R:=by
 refine YL.o ?_;obtain⟨x,g,r,P⟩:=h.th ht;have htl:=Gx h.s.ts;have hrl:=h.jA;have hlen:=hlen g P;obtain⟨G,D,hG,W,hd,hB,hr,⟨E,hE1,hE2,hhd⟩,S⟩:=h.cut.sM r P (λb=>σ.size<=b\/b<σ.size/\X b) (λb m hf hn=>by
  rcases hn with hn|hn
  ·omega
  ·exact hX b m hn.2 hf.1) (λb m=>m.elim (h.nJ.1 b) λm=>oX b m.2) (λm=>m.elim h.nJ.2 λm=>oX2 m.2)
 obtain⟨ps,Dn,A,K,C,hj,U⟩:=hB;have B:∀u,Ext G σ u->bW u L.p (uC L H.cf):=λu z=>((iH.loc _ _).bU hhd z λb _ m r=>hE1 b m r).2;have hr':∀u,Ext G σ u->bR L.cM 3 (ie L.ts H.bS) u D:=λu z=>aI.bU hr z λb _ m r=>hd b r m;refine⟨λu=>Ext G σ u,Ext.refl _ _,aG ⟨L.cM,λu z=>by rw[add_lit,(B u z).cell];rfl,aG ⟨L.cM,λu z=>by rw[add_lit,(B u z).cell];rfl,?_⟩⟩⟩;refine Es (bR.fP hr) h.s.ts r P (d:=1) O rfl λb o ha _=>⟨x.h,λu z=>?_,?_⟩
 ·obtain⟨b',o',ha',hc'⟩:=Us (bR.fP (hr' u z)) r P (d:=1) O rfl;rw[ha]at ha';cases ha';rw[add_lit,show o+3*t+1=o+(3*t+1) by omega];exact hc'
 refine nw (cs:=[.int .i64 (k:Int),.slice s.a s.len s.cap]) λv hz e m=>⟨bO.to e,?_⟩;have N:=(dQ.loc _ _ _).bK ((dQ.loc _ _ _).cut A) e;have Q:=(kW.loc _ _).bK ((kW.loc _ _).cut K) e;have hs1:=aH.bK (aH.cut hs) e;have hpl:x.h.len=ps.length:=by have:=A.1;rw[KF]at this;omega
 have hpg:ps.length=g.bP.length:=K.1;refine N.app (ys:=pq (k,s)) rfl rfl ?_ (λv hv=>HL (l:=[(k,s)]) v (by simpa[fO]using hv)) ?_ ?_ n4 λs' v2 hl2 e2 hr2=>?_
 ·intro j u z;rw[add_lit,zG,m.cell];exact z
 ·simp only;have:(x.h.len+1)*32<=1001*32:=kU O O;omega
 ·simp only;omega
 have hs2:=e2.1;have eG:Ext G σ v2:=(bO.to e).trans (e2.sub λb m=>m.1.1);refine⟨eG,?_⟩;obtain⟨b0,Y⟩:∃b,L.cM.a=some ⟨b,0,none⟩:=by
  rcases hr.2 with⟨h0,_⟩|⟨b,_,_,ha,_⟩
  ·omega
  ·exact⟨b,ha⟩
 rw[Y];refine ix O O ?_;refine(hr' v2 eG).st (j:=3*t+1) O (λb' V=>by rw[Y]at V;cases V;rw[add_lit,add_lit];congr 1;omega) λσ' Z hr3=>?_;have hs3:=Z.1;have e03:Ext (λb=>G b\/D b) σ σ':=(eG.sub λb m=>.inl m).trans (Z.sub λb m=>.inr m);have hr4:=(dQ.loc _ _ _).bU ((dQ.loc _ _ _).cut hr2) Z λb _ m r=>by
  rcases m.1 with h1|h1
  ·exact hd b h1.1.1 r
  ·have:=(W b r).2;omega
 have hB4:=(kW.loc _ _).bU ((kW.loc _ _).bU Q e2 λb _ m r=>r.1.2 m.1) Z λb _ m r=>hd b (C b m.1) r;have hs4:=aH.bU (aH.bU hs1 e2 λb m r w=>hX b r.2 r.1 (hG b w.1.1).1) Z λb _ r w=>hX b r.2 r.1 (W b w).1;have hBt:im s' (g.bP++[(k,xs)]) σ' (λb=>G b/\b<σ.size\/b<σ.size/\X b\/v.size<=b/\b<v2.size):=by
  refine⟨ps++[(k,s)],λb=>Dn b/\b<σ.size\/b<σ.size/\X b,?_,⟨by simp[hpg],λi p y J w=>?_⟩,λb m=>?_,hj.snoc K U hs hxs (λb m r w=>hX b m w (hG b (C b r)).1) k,λy w=>?_⟩
  ·rw[Hh];have:fO [(k,s)]=pq (k,s):=by simp[fO]
   rw[this];refine(dQ.loc _ _ _).mono hr4 λq _ M=>?_;rcases M.1 with h1|h1
   ·exact⟨.inl ⟨h1.1.1,h1.2⟩,λr=>by
     rcases r with r|r
     ·exact h1.1.2 r.1
     ·exact hX q r.1 r.2 (hG q h1.1.1).1⟩
   ·exact⟨.inr (.inr ⟨h1,M.2⟩),λr=>by
     rcases r with r|r<;>omega⟩
  ·rcases mw i ps.length with hi|hi
   ·rw[zg hi]at J;rw[zg O]at w;obtain⟨a1,a2,a3⟩:=hB4.2 i p y J w;exact⟨a1,aH.mono a2 λq _ M=>.inl M,a3⟩
   ·rw[zi hi]at J;rw[zi O]at w;have hi0:i-ps.length=0:=by
     have:=(cS.1 J).1;simp at this;omega
    rw[hi0]at J;rw[show i-g.bP.length=0 by omega]at w;simp at J w;subst J;subst w;exact⟨rfl,aH.mono hs4 λq _ M=>.inr ⟨M.2,M.1⟩,hc⟩
  ·rcases m with m|m
   ·exact .inl ⟨C b m.1,m.2⟩
   ·exact .inr (.inl m)
  ·rcases zP.1 w with h1|h1
   ·exact U y h1
   ·rw[zS]at h1;subst h1;exact hxs
 obtain⟨eF,h4⟩:=S σ' s' (g.bP++[(k,xs)]) (λb=>G b/\b<σ.size\/b<σ.size/\X b\/v.size<=b/\b<v2.size) D e03 (λb m=>by
  rcases m with m|m|m
  ·exact .inl (.inl m.1)
  ·exact .inr (.inr m)
  ·exact .inr (.inl O)) (λb m=>.inl (.inr m)) (λb m r=>by
  have:=(W b r).2;rcases m with m|m|m
  ·exact hd b m.1 r
  ·exact hX b m.1 m.2 (W b r).1
  ·omega) hBt hr3
 refine hR σ' (L.ts.set t {x with h:=s'}) (eF.sub λb m=>m.1) ?_;have e5:Q0 H t k xs = {H with bS:=H.bS.set t {g with bP:=g.bP++[(k,xs)]}}:=by
  unfold Q0 Hw.eA
  congr 1
  exact Vg P
 rw[e5];refine h4.mono (λb _ m=>?_) (λb (m:Grow F σ b\/X b)=>m.elim (h.oG b) (oX b)) λ(m:Grow F σ _\/X _)=>m.elim h.rl oX2;rcases m with m | (m|m|m)|m
 ·exact .inl (.inl m.1.1)
 ·exact .inl (.inl (hG b m.1).1)
 ·exact .inr m.2
 ·exact .inl (.inr O)
 ·exact .inl (.inl (W b m).1)
end Go.Ar
namespace Go.Ar
open Go Go.Vc Go.Proofs
variable {σ u u':Hp}{F B P:Rg}{L:dP}{H H':Hw}{t k n:Nat}{A:AR}{Y:Lay}{x:eH}{g:Th}{c:bX}{l:Li}{cs:List Value}
structure HK (F:Rg) (σ:Hp) (B:Rg) (u:Hp) (P:Rg) (L:dP) (H:Hw):Prop where
 h:HH u P L H
 e:Ext F σ u
 p:∀b,P b->(F b/\b<σ.size\/σ.size<=b)/\¬B b/\b<u.size
 b:∀b,B b->σ.size<=b/\b<u.size
 o:jh (λb=>σ.size<=b)/\¬σ.size<=1
theorem HK.start (h:HH σ F L H):HK F σ (λ_=>False) σ (Cut F σ) L H:=⟨h.cut,Ext.refl _ _,λb a=>⟨.inl ⟨a.1,a.2⟩,id,a.2⟩,λb a=>a.elim,h.nJ⟩
theorem HK.box (K:HK F σ B u P L H)(e:bO u u')(hz:u'.size=u.size+1):HK F σ (λb=>B b\/b=u.size) u' P L H:=
 ⟨K.h.bK e,K.e.trans (bO.to e),λb a=>⟨(K.p b a).1,λd=>d.elim (K.p b a).2.1 λg=>by have:=(K.p b a).2.2;omega,by have:=(K.p b a).2.2;omega⟩,λb a=>by
  have:=K.e.1;rcases a with a|a
  ·have:=K.b b a;omega
  ·omega,K.o⟩
theorem HK.fr (K:HK F σ B u P L H)(e:bO u u'):HK F σ B u' P L H:=
 ⟨K.h.bK e,K.e.trans (bO.to e),λb a=>⟨(K.p b a).1,(K.p b a).2.1,by have:=(K.p b a).2.2;have:=e.1;omega⟩,λb a=>by have:=K.b b a;have:=e.1;omega,K.o⟩
theorem HK.own (K:HK F σ B u P L H)(o:QJ u u' n)(hn:B n):HK F σ B u' P L H:=by
 have s:=K.b n hn;have r:=o.1;have e:Ext (· = n) u u':=o.ext;have j:∀b,b<u.size->P b->¬(b=n):=λb _ a m=>(K.p b a).2.1 (m▸hn);have d:jh (λb=>b=n)/\¬(1=n):=⟨K.o.1.sub λb i=>O,λi=>K.o.2 O⟩;exact⟨K.h.bU e j d.1 d.2,K.e.fE e λb (g:b=n)=>.inr O,λb a=>⟨(K.p b a).1,(K.p b a).2.1,by have:=(K.p b a).2.2;omega⟩,λb a=>by have:=K.b b a;omega,K.o⟩
theorem HK.cW (K:HK F σ B u P L H)(e:Ext P u u')(hb:bW u n cs)(hn:B n):bW u' n cs:=e.cA hb λa=>(K.p n a).2.1 hn
theorem HK.tf (K:HK F σ B u P L H){Q:Rg}{L':dP}(e:Ext P u u')(h:HH u' Q L' H')(hq:∀b,b<u'.size->Q b->P b\/u.size<=b\/(F b/\b<σ.size\/σ.size<=b)/\¬B b):HK F σ B u' (Cut Q u') L' H':=by
 have i:=e.1;have g:=K.e.1;refine⟨h.cut,K.e.fE e λb a=>(K.p b a).1.imp (λh=>h.1) id,λb a=>⟨?_,λd=>?_,a.2⟩,λb a=>by have:=K.b b a;omega,K.o⟩
 ·rcases hq b a.2 a.1 with h1|h1|h1
  ·exact(K.p b h1).1
  ·exact .inr O
  ·exact h1.1
 ·rcases hq b a.2 a.1 with h1|h1|h1
  ·exact(K.p b h1).2.1 d
  ·have:=K.b b d;omega
  ·exact h1.2 d
theorem HK.to (K:HK F σ B u P L H){Q:Rg}{L':dP}(e:Ext P u u')(h:HH u' Q L' H')(hq:∀b,b<u'.size->Q b->P b\/u.size<=b):HK F σ B u' (Cut Q u') L' H':=K.tf e h λb d a=>(hq b d a).imp id .inl
theorem HK.fin (K:HK F σ B u P L H){L0:dP}{H0:Hw}(h0:HH σ F L0 H0):HH u (Grow F σ) L H:=h0.grown K.h λb _ a=>(K.p b a).1.imp (λh=>h.1) id
def Fr (A' A:AR):Prop:=A'.tb=A.tb/\A'.room=A.room/\A'.cE=A.cE
theorem Fr.cG {A' A:AR}(h:Fr A' A)(Y:Lay):Go.Ar.cG A' Y=Go.Ar.cG A Y:=by
 funext k;unfold Go.Ar.cG;rw[h.1,h.2.1,h.2.2]
theorem ET (A:AR)(k m:Int):Fr (YS A k m) A:=by
 unfold YS;split<;>exact⟨rfl,rfl,rfl⟩
theorem FT (A:AR)(k:Int)(xs:List Int):Fr (Zj A k xs) A:=⟨(VF A k xs).1,(VF A k xs).2.1,(VF A k xs).2.2.1⟩
theorem I8 (A:AR)(sp:Sp)(m a no:Nat):Fr (cZ A sp m a no).2.1 A:=⟨(GF A sp m a no).1,(GF A sp m a no).2.2.2.1,(GF A sp m a no).2.2.1⟩
theorem Ms (A:AR)(x:Int):Fr (QL A x) A:=by
 unfold QL;split<;>exact⟨rfl,rfl,rfl⟩
theorem LF (A:AR)(sp:Sp)(k:Int):Fr (cR A sp k).1 A:=by
 unfold cR;split
 ·split
  ·rename_i c ss h1 h2;have h:=I8 A sp c.aF 1 (k.toNat+1);generalize cZ A sp c.aF 1 (k.toNat+1)=r at h;obtain⟨o,A',a⟩:=r;cases o with
   | none=>exact h
   | some x=>
    simp only;split<;>exact h
  ·exact⟨rfl,rfl,rfl⟩
 ·exact⟨rfl,rfl,rfl⟩
theorem E0 (A:AR)(sp:Sp)(m a:Int):Fr (cD A sp m a).1 A:=by
 unfold cD;split
 ·have h:=I8 A sp m.toNat a.toNat 41;generalize cZ A sp m.toNat a.toNat 41=r at h;obtain⟨o,A',b⟩:=r;cases o<;>exact h
 ·exact⟨rfl,rfl,rfl⟩
theorem Sz (A:AR)(k:Int):(ZW A k).tb=A.tb:=by unfold ZW;split<;>rfl
theorem OJ (A:AR)(k:Int)(xs:List Int):(Kf A k xs).tb=A.tb:=by unfold Kf;split<;>rfl
theorem HH.ni (h:HH σ F L H)(hk:H.bT[k]?=some A)(hy:L.ys[k]?=some Y):∃G:Rg,(∀b,G b->F b)/\cX σ G Y A (cG A Y)/\∀(σ':Hp) (A':AR) (Q:Rg),A'.tb=A.tb->Ext G σ σ'->(∀b,Q b->G b\/σ.size<=b)->cX σ' (λb=>Grow G σ b/\¬Q b) Y A' (cG A' Y) →
 Ext F σ σ'/\HH σ' (λb=>Grow F σ b/\¬Q b) L (H.cB k A'):=by
 obtain⟨Y',G,g,_,j,r,d⟩:=h.wN hk;rw[hy]at g;cases g;refine⟨G,j,r,λσ' A' Q i e u w=>?_⟩;obtain⟨s,m⟩:=d σ' A' _ i e (λb a=>a.1) w;refine⟨s,m.mono (λb _ a=>?_) (h.oG.sub λb a=>a.1) λa=>h.rl a.1⟩;rcases a with a|a
 ·exact⟨.inl a.1,λp=>by
   rcases u b p with h2|h2
   ·exact a.2.2 h2
   ·have:=a.2.1;omega⟩
 ·exact⟨a.1.imp (j b) id,a.2⟩
theorem cX.wq {T:Nat->Hp->Rg->Prop}{G Q:Rg}(h:cX σ G Y A T)(hq:∀b,¬Q b):cX σ (λb=>G b/\¬Q b) Y A T:=h.mono λb _ a=>⟨a,hq b⟩
theorem HH.ma (h:HH σ F L H)(hk:H.bT[k]?=some A)(hy:L.ys[k]?=some Y):∃G:Rg,(∀b,G b->F b)/\cX σ G Y A (cG A Y)/\∀(σ':Hp) (A':AR),A'.tb=A.tb->Ext G σ σ'->cX σ' (Grow G σ) Y A' (cG A' Y) →
 Ext F σ σ'/\HH σ' (Grow F σ) L (H.cB k A'):=by
 obtain⟨G,j,m,a⟩:=h.ni hk hy;refine⟨G,j,m,λσ' A' d e p=>?_⟩;obtain⟨r,i⟩:=a σ' A' (λ_=>False) d e (λb g=>g.elim) (p.wq λ_=>id);exact⟨r,i.mono (λb _ g=>g.1) h.oG h.rl⟩
theorem MA (h:HH σ F L H)(hk:H.bT[k]?=some A)(hy:L.ys[k]?=some Y)(c:Int){R:Sl->Int->Hp->Prop}
 (hR:∀s σ' (Q:Rg),Ext F σ σ'->(∀b,Q b->F b)->cP s 1 (Wv (YP A c)) σ' Q->s.len<=s.cap->HH σ' (λb=>Grow F σ b/\¬Q b) L (H.cB k (ZW A c))->R s (Qd A c) σ') :
 WA.c (aW Y.p) c σ R:=by
 obtain⟨G,m,r,g⟩:=h.ni hk hy;refine η r c λs σ' e i u d w=>?_;obtain⟨x,j⟩:=g σ' (ZW A c) (lE s) (Sz A c) e (λb a=>.inl (i b a)) (w.mono λb _ a=>⟨.inl a.1,a.2⟩);exact hR s σ' (lE s) x (λb a=>m b (i b a)) u d j
theorem O4 (h:HH σ F L H)(hk:H.bT[k]?=some A)(hy:L.ys[k]?=some Y)(c m:Int){R:Sl->Int->Hp->Prop}
 (hR:∀s σ' (Q:Rg),Ext F σ σ'->(∀b,Q b->σ.size<=b)->bR s 1 (ints (Yy A c m)) σ' Q->HH σ' (λb=>Grow F σ b/\¬Q b) L (H.cB k (YS A c m))->R s (QM A c m) σ') :
 WE.c (aW Y.p) c m σ R:=by
 obtain⟨G,x,j,d⟩:=h.ni hk hy;refine Rz j c m λs σ' e r u=>?_;have g:cG (YS A c m) Y=cG A Y:=(ET A c m).cG Y;obtain⟨w,i⟩:=d σ' (YS A c m) (λb=>σ.size<=b) (ET A c m).1 e (λb a=>.inr a) (by rw[g];exact u.mono λb _ a=>⟨.inl a.1,by have:=a.2;omega⟩);exact hR s σ' _ w (λb a=>a) r i
theorem SM (h:HH σ F L H)(hk:H.bT[k]?=some A)(hy:L.ys[k]?=some Y)(c:Int){sl:Sl}{xs:List Int}{X:Rg}(hs:cP sl 1 (Wv xs) σ X)(hi:∀x∈xs,iF x){R:Bool->Int->Hp->Prop}
 (hR:∀σ',Ext F σ σ'->HH σ' (Grow F σ) L (H.cB k (Kf A c xs))->R (Vp A c xs) (HW A c xs) σ'):WK.c (aW Y.p) c sl σ R:=by
 obtain⟨G,j,d,a⟩:=h.ma hk hy;refine Np d c hs hi λσ' e g=>?_;obtain⟨i,b⟩:=a σ' _ (OJ A c xs) e g;exact hR σ' i b
theorem PW (h:HH σ F L H)(hk:H.bT[k]?=some A)(hy:L.ys[k]?=some Y)(c:Int){sl:Sl}{xs:List Int}{X:Rg}(hs:cP sl 1 (Wv xs) σ X)(hX:∀b,b<σ.size->X b->¬F b)(hi:∀x∈xs,iF x)(hl:xs.length<=1000000)(hcap:sl.len<=sl.cap){R:aN}
 (hR:∀σ',Ext F σ σ'->HH σ' (Grow F σ) L (H.cB k (Zj A c xs))->R (Q3 A c xs) σ'):WC.c (aW Y.p) c sl σ R:=by
 obtain⟨G,j,m,a⟩:=h.ma hk hy;refine GV m c hi hl hcap (.inl ⟨X,hs,λb s u g=>hX b s u (j b g)⟩) λσ' e r=>?_;have d:cG (Zj A c xs) Y=cG A Y:=(FT A c xs).cG Y;obtain⟨w,i⟩:=a σ' _ (FT A c xs).1 e (by rw[d];exact r);exact hR σ' w i
theorem On (h:HH σ F L H)(hk:H.bT[k]?=some A)(hy:L.ys[k]?=some Y)(x:Int)(hf:∀r∈A.runs,r.1<=1000000){R:aN}
 (hR:∀σ',Ext F σ σ'->HH σ' (Grow F σ) L (H.cB k (QL A x))->R (Va A x) σ'):WU.c (aW Y.p) x σ R:=by
 obtain⟨G,m,g,a⟩:=h.ma hk hy;refine PY g x hf λσ' e i=>?_;have b:cG (QL A x) Y=cG A Y:=(Ms A x).cG Y;obtain⟨j,d⟩:=a σ' _ (Ms A x).1 e (by rw[b];exact i);exact hR σ' j d
theorem MO (h:HH σ F L H)(hk:H.bT[k]?=some A)(hy:L.ys[k]?=some Y)(c:Int){R:aN}
 (hR:∀σ',Ext F σ σ'->HH σ' (Grow F σ) L {H.cB k (cR A H.sp c).1 with sp:=(cR A H.sp c).2}->R (KV A H.sp c) σ'):Yn.c (aW Y.p) c σ R:=by
 obtain⟨Y',G,D,b,_,j,a⟩:=h.mf hk;rw[hy]at b;cases b;refine SB j c λσ' G' D' g e r=>?_;have d:cG (cR A H.sp c).1 Y=cG A Y:=(LF A H.sp c).cG Y;obtain⟨m,i⟩:=a σ' _ _ G' D' (LF A H.sp c).1 e g (by rw[d];exact r);exact hR σ' m i
theorem Rx (h:HH σ F L H)(hk:H.bT[k]?=some A)(hy:L.ys[k]?=some Y)(m a:Int){R:Int->Int->Hp->Prop}
 (hR:∀σ',Ext F σ σ'->HH σ' (Grow F σ) L {H.cB k (cD A H.sp m a).1 with sp:=(cD A H.sp m a).2}->R ((Qb A H.sp m a:Nat):Int) (QH A H.sp m a) σ'):WT.c (aW Y.p) m a σ R:=by
 obtain⟨Y',G,D,d,_,r,b⟩:=h.mf hk;rw[hy]at d;cases d;refine WcP r m a λσ' G' D' i e u=>?_;have g:cG (cD A H.sp m a).1 Y=cG A Y:=(E0 A H.sp m a).cG Y;obtain⟨s,j⟩:=b σ' _ _ G' D' (E0 A H.sp m a).1 e i (by rw[g];exact u);exact hR σ' s j
def Hw.dY (H:Hw)(t:Nat)(g:Th)(ls:List Li):Hw:={H with bS:=H.bS.set t {g with ls:=ls}}
theorem HH.lI (h:HH σ F L H)(hx:L.ts[t]?=some x)(hg:H.bS[t]?=some g):∃G:Rg,(∀b,G b->F b)/\eC σ G x.c H.tb H.cf.dB g.ls/\∀(σ':Hp) (ls:List Li) (Y':hO) (Q:Rg),Y'.p=x.c.p->Ext G σ σ'->(∀b,Q b->σ.size<=b)->eC σ' (λb=>Grow G σ b/\¬Q b) Y' H.tb H.cf.dB ls →
 Ext F σ σ'/\HH σ' (λb=>Grow F σ b/\¬Q b) {L with ts:=L.ts.set t {x with c:=Y'}} (H.dY t g ls):=by
 obtain⟨G,i,r,d⟩:=h.qh hx hg;refine⟨G,i,r,λσ' ls Y' Q u e y s=>?_⟩;obtain⟨w,j⟩:=d σ' ls Y' _ u e (λb a=>a.1) s;refine⟨w,j.mono (λb _ a=>?_) (h.oG.sub λb a=>a.1) λa=>h.rl a.1⟩;rcases a with a|a
 ·exact⟨.inl a.1,λm=>by have:=a.2.1;have:=y b m;omega⟩
 ·exact⟨a.1.imp (i b) id,a.2⟩
theorem HH.mj (h:HH σ F L H)(hx:L.ts[t]?=some x)(hg:H.bS[t]?=some g):∃G:Rg,(∀b,G b->F b)/\eC σ G x.c H.tb H.cf.dB g.ls/\∀(σ':Hp) (ls:List Li) (Y':hO),Y'.p=x.c.p->Ext G σ σ'->eC σ' (Grow G σ) Y' H.tb H.cf.dB ls →
 Ext F σ σ'/\HH σ' (Grow F σ) {L with ts:=L.ts.set t {x with c:=Y'}} (H.dY t g ls):=by
 obtain⟨G,j,m,a⟩:=h.lI hx hg;refine⟨G,j,m,λσ' ls Y' s e r=>?_⟩;obtain⟨u,i⟩:=a σ' ls Y' (λ_=>False) s e (λb d=>d.elim) (r.mono λb _ d=>⟨d,id⟩);exact⟨u,i.mono (λb _ d=>d.1) h.oG h.rl⟩
theorem ML (h:HH σ F L H)(hx:L.ts[t]?=some x)(hg:H.bS[t]?=some g)(hc:H.tb[k]?=some c)(hl:g.ls[k]?=some l){R:Int->Int->Hp->Prop}
 (hR:∀σ' ts',Ext F σ σ'->HH σ' (Grow F σ) {L with ts:=ts'} (H.dY t g (g.ls.set k (Kj c l).2))->R ((Kj c l).1.getD 0) (if(Kj c l).1.isSome then 0 else 4) σ'):Yk.c (aW x.c.p) (k:Int) σ R:=by
 obtain⟨G,r,j,a⟩:=h.mj hx hg;refine l7 j hc hl λσ' Y' e i d=>?_;obtain⟨m,b⟩:=a σ' _ Y' i e d;exact hR σ' _ m b
theorem υ (h:HH σ F L H)(hx:L.ts[t]?=some x)(hg:H.bS[t]?=some g)(hc:H.tb[k]?=some c)(hl:g.ls[k]?=some l){R:Int->Int->Hp->Prop}
 (hR:∀σ' ts',Ext F σ σ'->HH σ' (Grow F σ) {L with ts:=ts'} H->R ((p8 c l:Nat):Int) 0 σ'):Yt.c (aW x.c.p) (k:Int) σ R:=by
 obtain⟨G,s,m,a⟩:=h.mj hx hg;refine Ng m hc hl λσ' Y' e j i=>?_;obtain⟨r,b⟩:=a σ' _ Y' j e i;have d:H.dY t g g.ls=H:=by
  unfold Hw.dY;rw[Qt hg]
 rw[d]at b;exact hR σ' _ r b
theorem SW (h:HH σ F L H)(hx:L.ts[t]?=some x)(hg:H.bS[t]?=some g)(hc:H.tb[k]?=some c)(hl:g.ls[k]?=some l){sl:Sl}{xs:List Int}{X:Rg}(hs:cP sl 1 (Wv xs) σ X)(hX:∀q,X q->¬F q)(hfit:l.os.length+xs.length<=256){R:aN}
 (hR:∀σ' ts',Ext F σ σ'->HH σ' (Grow F σ) {L with ts:=ts'} (H.dY t g (g.ls.set k (eO xs.reverse l)))->R 0 σ'):Yx.c (aW x.c.p) (k:Int) sl σ R:=by
 obtain⟨G,i,r,a⟩:=h.mj hx hg;refine RP r hc hl hs (λq d hg=>hX q d (i q hg)) hfit λσ' Y' e m j=>?_;obtain⟨s,b⟩:=a σ' _ Y' m e j;exact hR σ' _ s b
theorem Wn3 (h:HH σ F L H)(hx:L.ts[t]?=some x)(hg:H.bS[t]?=some g)(hc:H.tb[k]?=some c)(hl:g.ls[k]?=some l)(y:Int){R:Sl->Int->Hp->Prop}
 (hR:∀σ' ts' s e (Q:Rg),Ext F σ σ'->(∀q,Q q->σ.size<=q)->bR s 1 (Wv (dS c y l).1) σ' Q->HH σ' (λb=>Grow F σ b/\¬Q b) {L with ts:=ts'} (H.dY t g (g.ls.set k (dS c y l).2))->R s e σ'):YW.c (aW x.c.p) (k:Int) y σ R:=by
 obtain⟨G,A,z,a⟩:=h.lI hx hg;refine Om z hc hl y λσ' Y' s j Q e w _ d r u=>?_;obtain⟨m,i⟩:=a σ' _ Y' Q w e d u;exact hR σ' _ s j Q m d r i
theorem Re (h:HH σ F L H)(hx:L.ts[t]?=some x)(hg:H.bS[t]?=some g){R:aO}(hR:∀σ',bO σ σ'->R (decide (H.cf.dB<QB H.tb g.ls)) σ'):Yh.c (aW x.c.p) σ R:=by
 obtain⟨G,d,b,a⟩:=h.mj hx hg;exact MN b hR
theorem OG (hso:Gj)(h:HH σ F L H)(hx:L.ts[t]?=some x)(hg:H.bS[t]?=some g){R:Sl->Hp->Prop}
 (hR:∀σ' s (Q:Rg),Ext F σ σ'->(∀q,Q q->σ.size<=q)->im s (Ki Z2 H.tb g.ls) σ' Q->HH σ' (λb=>Grow F σ b/\¬Q b) L (H.dY t g (Kg Z2 H.tb g.ls))->R s σ'):XZ.c (aW x.c.p) σ R:=by
 obtain⟨G,w,u,a⟩:=h.lI hx hg;refine NO hso u λσ' s Q e i m r=>?_;obtain⟨j,d⟩:=a σ' _ x.c Q rfl e i m;rw[show L.ts.set t {x with c:=x.c}=L.ts from Qt hx]at d;exact hR σ' s Q j i r d
theorem Wea (hso:Gj)(h:HH σ F L H)(hx:L.ts[t]?=some x)(hg:H.bS[t]?=some g){R:Sl->Hp->Prop}
 (hR:∀σ' s (Q:Rg),Ext F σ σ'->(∀q,Q q->σ.size<=q)->im s (Ki KQ H.tb g.ls) σ' Q->HH σ' (λb=>Grow F σ b/\¬Q b) L (H.dY t g (Kg KQ H.tb g.ls))->R s σ'):W7.c (aW x.c.p) σ R:=by
 obtain⟨G,w,u,a⟩:=h.lI hx hg;refine MU hso u λσ' s Q e i m r=>?_;obtain⟨j,d⟩:=a σ' _ x.c Q rfl e i m;rw[show L.ts.set t {x with c:=x.c}=L.ts from Qt hx]at d;exact hR σ' s Q j i r d
def nY (S:aP)(L:dP)(tb:List bX):Prop:=∀m,S m->∃(P:Rg) (ts:List eH) (H:Hw),HH m P {L with ts:=ts} H/\H.tb=tb
theorem nY.dF {S:aP}{tb:List bX}(hS:nY S L tb){K:Sl->Prop}(hK:K L.dF):gT S .s (Addr.add ⟨L.p,0,none⟩ 0) K:=⟨L.dF,λm a=>by obtain⟨_,_,_,h,_⟩:=hS m a;rw[add_lit,h.hd.cell];rfl,hK⟩
theorem nY.fY {S:aP}{tb:List bX}(hS:nY S L tb){K:Sl->Prop}(hK:K L.fY):gT S .s (Addr.add ⟨L.p,0,none⟩ 7) K:=⟨L.fY,λm a=>by obtain⟨_,_,_,h,_⟩:=hS m a;rw[add_lit,h.hd.cell];rfl,hK⟩
theorem nY.rA {S:aP}{tb:List bX}(hS:nY S L tb)(h:HH σ F L H)(hy:L.ys[k]?=some Y){K:Option Addr->Prop}(hK:K (some ⟨Y.p,0,none⟩)):Ix L.fY.a L.fY.len (k:Int) 1 λa=>gT S .p a K:=by
 have i:(eY (L.ys.map (·.p)))[k]?=some (.pointer (some ⟨Y.p,0,none⟩)):=by simp[eY,hy]
 obtain⟨b,o,j,_⟩:=h.nK.cell i;have y:=(cS.1 hy).1;have u:=h.j5;have:=h.s.ys;rw[j];refine ix O O ⟨_,λm r=>?_,hK⟩;obtain⟨_,_,_,e,_⟩:=hS m r;obtain⟨x,w,d,g⟩:=e.nK.cell i;rw[j]at d;cases d;rw[add_lit,show o+(k:Int).toNat*1=o+k by omega];exact g
theorem nY.rC {S:aP}(hS:nY S L H.tb)(h:HH σ F L H)(hc:H.tb[k]?=some c){K:Int->Prop}(hK:K (c.size:Int)):Ix L.dF.a L.dF.len (k:Int) 3 λa=>gT S bN (a.add 0) K:=by
 have e:(gp H.tb)[3*k+0]?=some (.int .i64 (c.size:Int)):=(HG hc).1;obtain⟨b,o,r,_⟩:=h.jW.cell e;have y:=(cS.1 hc).1;have u:=h.oY;rw[r];refine ix O O ⟨_,λm s=>?_,hK⟩;obtain⟨_,_,_,j,g⟩:=hS m s;rw[←g]at e;obtain⟨x,w,d,p⟩:=j.jW.cell e;have d:L.dF.a=_:=d;rw[r]at d;cases d;rw[add_lit,add_lit,show o+(k:Int).toNat*3+0=o+(3*k+0) by omega];exact p
end Go.Ar
namespace Go.Ar
open Go Go.Vc Go.Proofs
variable {σ u u':Hp}{F B P Q:Rg}{L:dP}{H H':Hw}{t k n pb:Nat}{A:AR}{Y:Lay}{x:eH}{g:Th}{c:bX}{l:Li}{cs:List Value}{parts:List (List Int)}{xs:List Int}
theorem HK.DP (K:HK F σ B u P L H)(e:Ext B u u'){B':Rg}(hB:∀b,B' b->B b\/u.size<=b/\b<u'.size):HK F σ B' u' P L H:=by
 have r:=e.1;have j:=K.e.1;have i:jh B/\¬B 1:=⟨K.o.1.sub λb g=>(K.b b g).1,λg=>K.o.2 (K.b _ g).1⟩;refine⟨K.h.bU e (λb _ a d=>(K.p b a).2.1 d) i.1 i.2,K.e.fE e λb m=>.inr (K.b b m).1,λb a=>⟨(K.p b a).1,λg=>?_,by have:=(K.p b a).2.2;omega⟩,λb a=>?_,K.o⟩
 ·rcases hB b g with d|d
  ·exact(K.p b a).2.1 d
  ·have:=(K.p b a).2.2;omega
 ·rcases hB b a with d|d
  ·have:=K.b b d;omega
  ·omega
def sV (s:Sl):Value:=.slice s.a s.len s.cap
def nE (pb:Nat)(parts:List (List Int)):Hp->Rg->Prop:=λu Q=>∃(ps:List Sl) (Qs:Nat->Rg),ps.length=parts.length/\Q pb/\bW u pb (ps.map sV)/\(∀j b,Qs j b->Q b/\b≠pb)/\(∀j j' b,Qs j b->Qs j' b->j=j') ∧
 ∀j s xs,ps[j]?=some s->parts[j]?=some xs->dQ s 1 (Wv xs) u (Qs j)
theorem nE.loc (pb:Nat)(parts:List (List Int)):dR (nE pb parts):=by
 rintro σ H F G ⟨B,Qs,u,D,r,i,x,w⟩ C g;have p:=g pb r.lt D;obtain⟨e,E⟩:=r;refine⟨B,λj b=>Qs j b/\b<σ.size,u,p.1,⟨e,p.2.trans E⟩,λj b d=>⟨(g b d.2 (i j b d.1).1).1,(i j b d.1).2⟩,λj A b a z=>x j A b a.1 z.1,λj s y a b=>(dQ.loc _ _ _) _ _ _ _ (w j s y a b) C λb d m=>⟨⟨m,d⟩,(g b d (i j b m).1).2⟩⟩
theorem nE.add (h:nE pb parts u Q){a m e1 e2:Nat}(hm:m=parts.length)(ha:parts[a]?=some xs)(y:Int)(hl:xs.length<=1000000){K:aP}(hK:∀u',Ext Q u u'->nE pb (parts.set a (xs++[y])) u' (Grow Q u)->K u') :
 Ix (some ⟨pb,0,none⟩) m (a:Int) 1 λa1=>jB a1 u λt35=>Nw (.cells #[.int .i64 y] e1 (0,0)) u λn37 v4=>App t35 1 8 e2 [.int .i64 0] ⟨some n37,1,1⟩ v4 λt38 v5=>Ix (some ⟨pb,0,none⟩) m (a:Int) 1 λa39=>dG a39 (.slice t38.a t38.len t38.cap) v5 λv6=>K v6:=by
 obtain⟨B,Qs,Y,R,M,A,S,N⟩:=h;have F:=(cS.1 ha).1;have z:B[a]?=some (B[a]' O):=cL _;generalize (B[a]' O)=s at z;have i:=N a s xs z ha;have X:s.len=xs.length:=by have:=i.1;simp[Wv]at this;omega
 refine ix O O ?_;rw[add_lit,show 0+(a:Int).toNat*1=a by omega];refine M.Am (a:=s.a) (n:=s.len) (c:=s.cap) (by simp[z,sV]) ?_;refine nw (cs:=[.int .i64 y]) λv4 hz e d=>?_;have p:=(dQ.loc _ _ _).bK ((dQ.loc _ _ _).cut i) e;have J:=e.cA M id;refine p.app (x:=⟨some ⟨u.size,0,none⟩,1,1⟩) (ys:=[.int .i64 y]) rfl rfl ?_ (by simp[dM]) ?_ ?_ n4 λZ v5 V E L=>?_
 ·intro j w hw;rw[add_lit,zG,d.cell];exact hw
 ·simp only;omega
 ·simp only;omega
 have U:=E.1;have G:bW v5 pb (B.map sV):=E.cA J λr=>(A a pb r.1).2 rfl;refine ix O O ?_;rw[add_lit,show 0+(a:Int).toNat*1=a by omega];refine G.s0 aE λu' P g=>?_;have hz6:=P.1;have H:Ext (· = pb) v5 u':=P.ext;have eQ:Ext Q u u':=((bO.to e).trans (E.sub λb d=>(A a b d.1).1)).trans (H.sub λb d=>by rw[d];exact R);have hpb:=M.lt;refine hK u' eQ ⟨B.set a Z,λj b=>Qs j b/\b<u.size\/j=a/\v4.size<=b/\b<v5.size,by simp[Y],.inl R,?_,λj b d=>?_,λj W b d g=>?_,λj s2 ys C D=>?_⟩
 ·rw[uj];exact g
 ·rcases d with d|d
  ·exact⟨.inl (A j b d.1).1,(A j b d.1).2⟩
  ·exact⟨.inr O,O⟩
 ·rcases d with d|d<;>rcases g with g|g
  ·exact S j W b d.1 g.1
  ·omega
  ·omega
  ·omega
 ·by_cases hja:j=a
  ·subst hja;rw[zM O]at C;rw[zM F]at D;cases C;cases D;have:=(dQ.loc _ _ _).bU ((dQ.loc _ _ _).cut L) H λb _ d r=>by
    rcases d.1 with h7|h7
    ·exact(A j b h7.1).2 r
    ·omega
   have e7:Wv (xs++[y])=Wv xs++[.int .i64 y]:=by simp[Wv]
   rw[e7];refine(dQ.loc _ _ _).mono this λb _ d=>?_;rcases d.1 with h7|h7
   ·exact .inl h7
   ·exact .inr ⟨rfl,h7,d.2⟩
  ·rw[zj (Ne.symm hja)]at C D;have:=(dQ.loc _ _ _).cut (N j s2 ys C D);have:=(dQ.loc _ _ _).bU ((dQ.loc _ _ _).bU ((dQ.loc _ _ _).bK this e) E λb _ d r=>hja (S j a b d.1 r.1)) H λb _ d r=>(A j b d.1).2 r;exact(dQ.loc _ _ _).mono this λb _ d=>.inl d
theorem nE.get (h:nE pb parts u Q){a m:Nat}(hm:m=parts.length)(ha:parts[a]?=some xs){K:Sl->Prop}(hK:∀s,dQ s 1 (Wv xs) u Q->s.len=xs.length->K s):Ix (some ⟨pb,0,none⟩) m (a:Int) 1 λa1=>jB a1 u K:=by
 obtain⟨g,Qs,x,y,w,i,z,j⟩:=h;have p:=(cS.1 ha).1;have e:g[a]?=some (g[a]' O):=cL _;generalize (g[a]' O)=s at e;have d:=j a s xs e ha;refine ix O O ?_;rw[add_lit,show 0+(a:Int).toNat*1=a by omega];refine w.Am (a:=s.a) (n:=s.len) (c:=s.cap) (by simp[e,sV]) (hK s ((dQ.loc _ _ _).mono d λb _ r=>(i a b r).1) ?_);have:=d.1;simp[Wv]at this;omega
theorem Hx {bT:List AR}{x:Int}(h:0<=Ye bT x):(Ye bT x).toNat<bT.length/\Ye bT x=((Ye bT x).toNat:Int):=by
 refine⟨?_,O⟩;unfold Ye at *;split at h
 ·omega
 ·rename_i hx;rw[zA hx];split at h
  ·rename_i i hi;have:=(yI.1 hi).1;simp only[dC];exact this
  ·omega
theorem Py {bT:List AR}{x:Int}{xs:List Int}(h:0<=Ye bT x):((List.range bT.length).map (Z1 bT xs)).set (Ye bT x).toNat (Z1 bT xs (Ye bT x).toNat++[x])=(List.range bT.length).map (Z1 bT (xs++[x])):=by
 have a:=Hx h;apply zp;intro j;by_cases hj:j<bT.length
 ·by_cases e:(Ye bT x).toNat=j
  ·subst e;rw[zM (by simpa using hj)];simp only[ze,oR hj,zh,Z1,vP]
   congr 2
   rw[uz (by rw[←a.2];simp)];rfl
  ·rw[zj e];simp only[ze,oR hj,zh,Z1,vP];have:List.filter (λy=>Ye bT y==(j:Int)) [x]=[]:=by
    rw[tx (by simp only[zZ];omega)];rfl
   rw[this,km]
 ·rw[zX aE,zX aE]
theorem V6 {K:aO}{body:(Bool->Hp->Prop)->Prop}(P:aO)(h1:∀r w,P r w->K r w)(h2:∀J:Bool->Hp->Prop,(∀r w,P r w->J r w)->body J):bY K body:=bY.intro (h2 K h1)
theorem C6 {K:eJ [.b]}{body:eJ [.b]->Prop}(P:aO)(h1:∀r w,P r w->K r w)(h2:∀J:eJ [.b],(∀r w,P r w->J r w)->body J):Jn [.b] K body:=Jn.intro (h2 K h1)
theorem qi {K:eJ []}{body:eJ []->Prop}(P:aP)(h1:∀w,P w->K w)(h2:∀J:eJ [],(∀w,P w->J w)->body J):Jn [] K body:=Jn.intro (h2 K h1)
theorem Vr {H:Hw}{k:Nat}{part:Nat->List Int}(j:Nat):Vk H k part (List.range (j+1))=(match (Vk H k part (List.range j)).bT[j]? with
 | some A=>if part j=[]then Vk H k part (List.range j)else(Vk H k part (List.range j)).cB j (Zj A (k:Int) (part j))
 | none=>Vk H k part (List.range j)):=by
 unfold Vk;rw[zw,m6];rfl
theorem Wep {H:Hw}{k:Nat}{part:Nat->List Int}(j:Nat):(Vk H k part (List.range j)).bT.length=H.bT.length:=by
 induction j with
 | zero=>rfl
 | succ j ih=>
  rw[Vr];split
  ·split
   ·exact ih
   ·simp[Hw.cB,ih]
  ·exact ih
theorem Wgz {H:Hw}{k:Nat}{part:Nat->List Int}(j:Nat):(Vk H k part (List.range j)).bS=H.bS:=by
 induction j with
 | zero=>rfl
 | succ j ih=>
  rw[Vr];split
  ·split<;>exact ih
  ·exact ih
theorem EC (H:Hw)(own k:Nat)(xs:List Int):(Gk H own k xs).bS=H.bS:=by
 unfold Gk;split
 ·split
  ·rfl
  ·rw[Wgz];split<;>rfl
 ·rfl
def DS (F:Rg)(σ:Hp)(L:dP)(H:Hw)(pb:Nat)(parts:List (List Int))(cs:List Value)(w:Hp):Prop:=∃Q P:Rg,HK F σ (λb=>b=σ.size\/Q b) w P L H/\nE pb parts w Q/\bW w σ.size cs/\∀b,Q b->b≠σ.size
theorem Tf (h:HH σ F L H){own:Nat}(ho:own<H.bT.length)(k:Nat){sl:Sl}{xs:List Int}{X:Rg}(hs:cP sl 1 (Wv xs) σ X)(hX:∀b,b<σ.size->X b->¬F b)(hcap:sl.len<=sl.cap)(hx:∀x∈xs,iF x/\0<=Ye H.bT x)(hl:xs.length<=1000000){R:aP}
 (hR:∀σ',Ext F σ σ'->HH σ' (Grow F σ) L (Gk H own k xs)->R σ'):ZC.c (aW L.p) (own:Int) (k:Int) sl σ R:=by
 refine ZC.o ?_;have hsl:sl.len=xs.length:=by have:=hs.1;simp[Wv]at this;omega
 have ha2:=h.s.a2;have hal:=h.j5;have hs1:∀u,Ext F σ u->cP sl 1 (Wv xs) u (λb=>X b/\b<σ.size):=λu eu=>aH.bU (aH.cut hs) eu λb _ hx hf=>hX b hx.2 hx.1 hf;refine nw (cs:=[.int .i64 (k:Int),.slice sl.a sl.len sl.cap]) λv hz e d=>?_;have K1:=(HK.start h).box e hz;refine aG (K1.h.hd.rS rfl ?_);simp only;refine mk (n:=L.fY.len) O O λv1 hz1 D hb1=>?_;have K2:=K1.box D hz1;have hb2:=D.cA d id;have N:nE v.size ((List.range H.bT.length).map (Z1 H.bT [])) v1 (λb=>b=v.size):=by
  refine⟨List.replicate H.bT.length ⟨none,0,0⟩,λ_ _=>False,by simp,rfl,?_,λj b d=>d.elim,λj j' b d=>d.elim,λj s ys g h2=>?_⟩
  ·have:(List.replicate L.fY.len [Value.slice none 0 0]).flatten=(List.replicate H.bT.length (⟨none,0,0⟩:Sl)).map sV:=by
    rw[hal];simp[sV]
   rw[←this];exact hb1
  ·simp only[ze,qQ]at h2;obtain⟨a,_,rfl⟩:=h2;simp only[nB]at g;split at g
   ·cases g;exact dQ.nil _ _ _ _
   ·cases g
 have hpl:∀ys:List Int,L.fY.len=((List.range H.bT.length).map (Z1 H.bT ys)).length:=λys=>by simp[hal]
 refine hb2.rS rfl ?_;refine ZP (a:=bN) (λ(z:Int) w=>∃i:Nat,z=(i:Int)/\i<=xs.length/\DS F σ L H v.size ((List.range H.bT.length).map (Z1 H.bT (xs.take i))) [.int .i64 (k:Int),.slice sl.a sl.len sl.cap] w) (λz _=>xs.length-z.toNat)
  ⟨0,rfl,O,λb=>b=v.size,_,⟨K2.h,K2.e,λb d=>⟨(K2.p b d).1,λhx=>(K2.p b d).2.1 (hx.imp .inr id),(K2.p b d).2.2⟩,λb d=>K2.b b (d.imp .inr id),K2.o⟩,N,hb2,λb d=>O⟩ ?_
 rintro z w ⟨i,rfl,hi,Q,P,K,N,C,hQ⟩;refine cH (λG=>?_) λad=>?_
 ·simp only at G;have hi':i<xs.length:=by omega
  have aa:xs[i]?=some xs[i]:=cL hi';generalize xs[i]=y at aa;have hy:=hx y (zE aa);refine(hs1 w K.e).qc aa (HC K.h y hy.1 λZ D=>?_);have G:=Hx hy.2;rw[G.2];have hP1:nE v.size _ Z (λb=>Q b/\b<w.size):=(nE.loc _ _).bK ((nE.loc _ _).cut N) D;have hpart:((List.range H.bT.length).map (Z1 H.bT (xs.take i)))[(Ye H.bT y).toNat]?=some (Z1 H.bT (xs.take i) (Ye H.bT y).toNat):=by
   simp only[ze,oR G.1,zh]
  have hpl1:(Z1 H.bT (xs.take i) (Ye H.bT y).toNat).length<=1000000:=by
   have:=na (λx=>Ye H.bT x==(((Ye H.bT y).toNat:Nat):Int)) (xs.take i);simp only[Z1];rw[zO]at this;omega
  refine hP1.add (hpl _) hpart y hpl1 λw2 e2 hP2=>?_;rw[Py hy.2]at hP2;have ht:xs.take i++[y]=xs.take (i+1):=by rw[zf,aa];rfl
  rw[ht]at hP2;have hz1:=D.1;have hz2:=e2.1;refine bZ (m:=i+1) O O ⟨⟨i+1,rfl,O,λb=>(Q b/\b<w.size)\/Z.size<=b/\b<w2.size,P,(K.fr D).DP (e2.sub λb d=>.inr d.1) λb d=>?_,(nE.loc _ _).mono hP2 λb d W=>?_,?_,λb d=>?_⟩,O⟩
  ·rcases d with d|d|d
   ·exact .inl (.inl d)
   ·exact .inl (.inr d.1)
   ·exact .inr d
  ·rcases W with W|W
   ·exact .inl W
   ·exact .inr ⟨W,d⟩
  ·exact e2.cA (D.cA C id) λhx=>hQ _ hx.1 rfl
  ·have:=(K.b σ.size (.inl rfl)).2;rcases d with d|d
   ·exact hQ b d.1
   ·omega
 ·have hii:i=xs.length:=by simp only at ad;omega
  subst hii;rw[zm]at N;obtain⟨A,hA⟩:∃A,H.bT[own]?=some A:=⟨_,cL ho⟩;obtain⟨Y,hY,_,_⟩:=h.ar hA;have M:Gk H own k xs=(if(Z1 H.bT xs own).length=xs.length/\Vp A (k:Int) xs=true then H.cB own (Kf A (k:Int) xs)
   else Vk (if(Z1 H.bT xs own).length=xs.length then H.cB own (Kf A (k:Int) xs)else H) k (Z1 H.bT xs) (List.range H.bT.length)):=by
   unfold Gk;rw[hA]
  have hown:((List.range H.bT.length).map (Z1 H.bT xs))[own]?=some (Z1 H.bT xs own):=by
   simp only[ze,oR ho,zh]
  refine qi (λw=>¬((Z1 H.bT xs own).length=xs.length/\Vp A (k:Int) xs=true)/\DS F σ L (if(Z1 H.bT xs own).length=xs.length then H.cB own (Kf A (k:Int) xs)else H) v.size ((List.range H.bT.length).map (Z1 H.bT xs)) [.int .i64 (k:Int),.slice sl.a sl.len sl.cap] w) (λw hw=>?_) λJ hJ=>?_
  ·obtain⟨hno,hw⟩:=hw;rw[zA hno]at M;generalize hH1:(if(Z1 H.bT xs own).length=xs.length then H.cB own (Kf A (k:Int) xs)else H)=H1 at hw M
   have hH1l:H1.bT.length=H.bT.length:=by
    rw[←hH1];split
    ·simp[Hw.cB]
    ·rfl
   refine ZP (a:=bN) (λ(z:Int) w=>∃j:Nat,z=(j:Int)/\j<=H.bT.length/\DS F σ L (Vk H1 k (Z1 H.bT xs) (List.range j)) v.size ((List.range H.bT.length).map (Z1 H.bT xs)) [.int .i64 (k:Int),.slice sl.a sl.len sl.cap] w) (λz _=>H.bT.length-z.toNat) ⟨0,rfl,O,hw⟩ ?_;rintro z w ⟨j,rfl,hj,Q,P,K,N,C,hQ⟩;refine cH (λG=>?_) λad=>?_
   ·simp only at G;have hj':j<H.bT.length:=by omega
    have hpj:((List.range H.bT.length).map (Z1 H.bT xs))[j]?=some (Z1 H.bT xs j):=by
     simp only[ze,oR hj',zh]
    refine N.get (hpl _) hpj λs U S=>?_;have hfl:=Wep (H:=H1) (k:=k) (part:=Z1 H.bT xs) j;obtain⟨B,hB⟩:∃B,(Vk H1 k (Z1 H.bT xs) (List.range j)).bT[j]?=some B:=⟨_,cL O⟩;have E:=Vr (H:=H1) (k:=k) (part:=Z1 H.bT xs) j;rw[hB]at E;simp only at E;refine cH (λhpos=>?_) λhz0=>?_
    ·have V:Z1 H.bT xs j≠[]:=λe=>by rw[e]at S;simp at S;omega
     rw[zA V]at E;obtain⟨Y,hY,_,_⟩:=K.h.ar hB;refine aG (K.h.hd.rS rfl (K.h.rA hY (C.rI rfl ?_)));refine PW K.h hB hY (k:Int) (dQ.fP U) (λb _ W hp=>(K.p b hp).2.1 (.inr W)) (λx hx'=>(hx x (zH.1 hx').1).1) ?_ (dQ.cap U) λZ D g=>?_
     ·have:=na (λx=>Ye H.bT x==(j:Int)) xs;simp only[Z1];omega
     ·have hz1:=D.1;rw[←E]at g;refine bZ (m:=j+1) O O ⟨⟨j+1,rfl,O,Q,_,K.to D g λb _ d=>d,(nE.loc _ _).bU N D λb _ W hp=>(K.p b hp).2.1 (.inr W),K.cW D C (.inl rfl),hQ⟩,O⟩
    ·have V:Z1 H.bT xs j=[]:=CG O;rw[zB V]at E;refine bZ (m:=j+1) O O ⟨⟨j+1,rfl,O,Q,P,by rw[E];exact K,N,C,hQ⟩,O⟩
   ·have hjj:j=H.bT.length:=by simp only at ad;omega
    subst hjj;rw[M]at hR;exact hR w K.e (K.fin h)
  ·refine N.get (hpl _) hown λs U S=>C.rS rfl ?_;refine cN (λheq=>?_) λV=>?_
   ·have ac:(Z1 H.bT xs own).length=xs.length:=by simp only[zZ]at heq;omega
    rw[zB ac]at M hJ;have hS:nY (λu=>(∃P' H',HH u P' L H'/\H'.tb=H.tb)/\bW u σ.size [.int .i64 (k:Int),.slice sl.a sl.len sl.cap]) L H.tb:=λm hm=>by
     obtain⟨⟨P',H',g,h2⟩,_⟩:=hm;exact⟨P',L.ts,H',g,h2⟩
    refine⟨λu=>(∃P' H',HH u P' L H'/\H'.tb=H.tb)/\bW u σ.size [.int .i64 (k:Int),.slice sl.a sl.len sl.cap],⟨⟨_,_,K.h,rfl⟩,C⟩,aG (hS.fY (hS.rA K.h hY ?_))⟩;refine⟨(k:Int),λm hm=>by rw[add_lit,hm.2.cell];rfl,⟨sl,λm hm=>by rw[add_lit,hm.2.cell];rfl,?_⟩⟩;refine SM K.h hA hY (k:Int) (hs1 w K.e) (λx hx'=>(hx x hx').1) λZ D g=>?_;have K1:=K.to D g λb _ d=>d;refine⟨⟨⟨_,_,g,rfl⟩,K.cW D C (.inl rfl)⟩,?_⟩;have fin:∀r,r=Vp A (k:Int) xs->((r=true->R Z)/\(r=false->J Z)):=λr hr=>by
     refine⟨λhr1=>?_,λhr1=>hJ Z ⟨λhx=>Bool.noConfusion ((hr1.symm.trans hr).trans hx.2),Q,_,K1,(nE.loc _ _).bU N D λb _ W hp=>(K.p b hp).2.1 (.inr W),K.cW D C (.inl rfl),hQ⟩⟩;rw[zB ⟨ac,by rw[←hr,hr1]⟩]at M;rw[M]at hR;exact hR Z K1.e (K1.fin h)
    refine V6 (λr w=>w=Z/\r=Vp A (k:Int) xs) (λr w' ⟨hw,hr⟩=>?_) λJ3 hJ3=>?_
    ·subst hw;exact cN (λg=>(fin r hr).1 g) λg=>(fin r hr).2 g
    ·refine cN (λg=>hJ3 _ _ ⟨rfl,?_⟩) λg=>hJ3 _ _ ⟨rfl,g.symm⟩;have:HW A (k:Int) xs=0:=by
      unfold Vp at g;simp only[zF,zR]at g;exact g.1
     rw[this,g];rfl
   ·have ab:¬(Z1 H.bT xs own).length=xs.length:=by
     simp only[nk]at V;omega
    rw[zA ab]at hJ;exact hJ w ⟨λhx=>ab hx.1,Q,P,K,N,C,hQ⟩
theorem gY {w:Hp}(K:HK F σ B w P L H)(hB:B n){p q:Int}(hb:bW w n [.int .i64 p,.int .i64 q]){x y:Int}{K':Int->Int->Hp->Prop}(hK:∀w',HK F σ B w' P L H->K' x y w') :
 dG (Addr.add ⟨n,0,none⟩ 0) (.int .i64 x) w λv3=>dG (Addr.add ⟨n,0,none⟩ 1) (.int .i64 y) v3 λv4=>eW .i64 (Addr.add ⟨n,0,none⟩ 0) v4 λres=>eW .i64 (Addr.add ⟨n,0,none⟩ 1) v4 λpE=>K' res pE v4:=
 hb.s1 aA λv3 o3 b=>b.s1 aA λv4 o4 a=>a.rI rfl (a.rI rfl (hK v4 ((K.own o3 hB).own o4 hB)))
theorem Nd (h:HH σ F L H)(ht:t<H.bS.length)(x:Int)(hx:iF x)(hr:bV H.live x=none->∀A∈H.bT,iO A)(hlen:∀g,H.bS[t]?=some g->g.bP.length<=1000)(h0:∀b,bV H.live x=some b->0<=x){R:Value->Int->Int->Hp->Prop}
 (hR:∀σ' ts',Ext F σ σ'->HH σ' (Grow F σ) {L with ts:=ts'} (He H t x).1->R (og (He H t x).2.1) (He H t x).2.2.1 (He H t x).2.2.2 σ'):ZF.c (aW L.p) (t:Int) x σ R:=by
 refine ZF.o ?_;refine nw (cs:=[.int .i64 0,.int .i64 0]) λv hz e hb=>?_;have K1:=(HK.start h).box e hz;refine aG (K1.h.hd.rM rfl ⟨_,K1.h.j0,?_⟩);refine nw (cs:=[.int .i64 0,.int .i64 0,.int .i64 0,.int .i64 0]) λv1 hz1 e1 hb1=>?_;have K2:=K1.box e1 hz1;have hbv:=e1.cA hb id;have m:σ.size≠v.size:=by omega
 refine hb1.s1 aA λv2 o2 b2=>b2.s1 aA λv3 o3 b3=>b3.s1 aA λv4 o4 b4=>b4.s1 aA λv5 o5 b5=>?_;have K5:=(((K2.own o2 (.inr rfl)).own o3 (.inr rfl)).own o4 (.inr rfl)).own o5 (.inr rfl);have C:=Wp o5 (Wp o4 (Wp o3 (Wp o2 hbv m) m) m) m;have hL:L = {L with ts:=L.ts}:=rfl;cases hm:bV H.live x with
 | none=>
  have hno:He H t x=(H,none,0,my H x):=by unfold He;rw[hm]
  rw[hno]at hR;simp only at hR;refine cJ rfl ?_;refine qi (λw=>my H x=8/\bO v5 w) (λw ⟨h8,ew⟩=>?_) λJ hJ=>?_
  ·rw[h8]at hR;exact gY (n:=σ.size) (K5.fr ew) (.inl (.inr rfl)) (ew.cA C id) λD K'=>hR D L.ts K'.e (K'.fin h)
  ·refine HC K5.h x hx λv9 P=>?_;have K9:=K5.fr P;have hb9:=P.cA C id;refine cH (λM=>?_) λhlt=>hJ v9 ⟨zA O,P⟩;have K:=Hx M;obtain⟨A,hA⟩:∃A,H.bT[(Ye H.bT x).toNat]?=some A:=⟨_,cL K.1⟩;obtain⟨Y,hY,_,hAY⟩:=K9.h.ar hA;have a:my H x=(match Uj A x with
    | some (k,y)=>if 0<=k/\(y:Int)=x then(9:Int)else 8
    | none=>8):=by unfold my;rw[zB M,hA];rfl
   rw[K.2];refine aG (K9.h.hd.rS rfl (K9.h.rA hY ?_));refine E3 hAY (hr hm A (zE hA)) x hx (λE k y d hf=>?_) λE d hf=>?_
   ·rw[hf]at a;simp only at a;rw[a]at hR hJ;have K10:=K9.fr d;have U:=d.cA hb9 id;refine V6 (λr w=>w=E/\r=decide (0<=k)) (λr w ⟨V,i⟩=>?_) λJ1 z=>?_
    ·subst V;subst i;refine V6 (λr w2=>w2=w/\r=decide (0<=k/\(y:Int)=x)) (λr w2 ⟨V,i⟩=>?_) λJ2 W=>?_
     ·subst i;rw[V];refine cH (λB=>?_) λB=>?_
      ·rw[zB B]at hR;exact gY (n:=σ.size) K10 (.inl (.inr rfl)) U λD K'=>hR D L.ts K'.e (K'.fin h)
      ·exact hJ w ⟨zA B,P.trans d⟩
     ·refine cH (λB=>W _ _ ⟨rfl,?_⟩) λB=>W _ _ ⟨rfl,?_⟩
      ·by_cases hyx:(y:Int)=x
       ·rw[zU (⟨B,hyx⟩:0<=k/\(y:Int)=x),zZ.2 hyx]
       ·rw[zb (λhx=>hyx hx.2),nk.2 hyx]
      ·rw[zb (λhx=>B hx.1)]
    ·exact cJ rfl (z _ _ ⟨rfl,rfl⟩)
   ·rw[hf]at a;simp only at a;rw[a]at hJ;refine V6 (λr w=>w=E/\r=false) (λr w ⟨V,i⟩=>?_) λJ1 z=>cF rfl (z _ _ ⟨rfl,rfl⟩);subst V;subst i;exact bY.intro (cF rfl (cF rfl (hJ w ⟨rfl,P.trans d⟩)))
 | some b=>
  have hb0:=h0 b hm;have hfd:He H t x=(if b.2.2.1<0 then({H with live:=cT H.live x},some (.dK (x/256) b.2.2.2),0,0)
   else(Q0 {H with live:=cT H.live x} t b.2.2.1.toNat [x],some (.put b.2.2.1.toNat x),0,0)):=by unfold He;rw[hm]
  rw[hfd]at hR;have hgb:(bV H.live x).getD ((0,0,0,0):Bk)=b:=by rw[hm];rfl
  rw[hgb]at b5;refine cF rfl ?_;refine aG (K5.h.hd.rM rfl ?_);obtain⟨hF,N⟩:=K5.h.sS;refine⟨_,K5.h.j0,λv6 o6 _ hm6=>?_⟩;obtain⟨e6,h6⟩:=N v6 _ (o6 _ rfl) hm6;have K6:=K5.to e6 h6 λb _ hb=>.inl hb;have aa:=K5.cW e6 C (.inl (.inr rfl));have s:=K5.cW e6 b5 (.inr rfl);refine s.rI rfl (cH (λX=>?_) λhnn=>?_)
  ·have G:b.2.2.1<0:=X;rw[zB G]at hR;refine nz aB (ar (by rw[Xq O];omega) (by rw[Xq O];unfold iF at hx;omega) (s.rI rfl ?_));rw[Xq O];exact gY (n:=σ.size) K6 (.inl (.inr rfl)) aa λD K'=>hR D L.ts K'.e (K'.fin h)
  ·have S:¬b.2.2.1<0:=hnn;rw[zA S]at hR;refine s.rI rfl (nw (cs:=[.int .i64 x]) λv7 hz7 e7 hb7=>?_);have K7:=K6.box e7 hz7;have Z:=e7.cA aa id;have hc7:=e7.cA s id;have Q:b.2.2.1=((b.2.2.1.toNat:Nat):Int):=by omega
   have hs7:cP ⟨some ⟨v6.size,0,none⟩,1,1⟩ 1 (Wv [x]) v7 (· = v6.size):=hb7.fP (o:=0) rfl rfl λj hj=>by rw[zG];rfl
   have hz6:=K6.e.1;rw[Q];refine AY K7.h (t:=t) ht b.2.2.1.toNat hs7 (zC _) aA (λq _ u hp=>(K7.p q hp).2.1 (.inr u)) (K7.o.1.sub λq u=>O) (λu=>K7.o.2 O) hlen λv8 ts8 e8 h8=>?_;have K8:=(K6.fr e7).tf e8 h8 λq hql u=>by
    rcases u with u|u
    ·exact u.imp id .inl
    ·refine .inr (.inr ⟨.inr O,λhB=>?_⟩);have:=(K6.b q hB).2;omega
   have hb8:=K7.cW e8 Z (.inl (.inl (.inr rfl)));have hc8:=K7.cW e8 hc7 (.inl (.inr rfl));refine hc8.rI (x:=((b.2.2.1.toNat:Nat):Int)) (by rw[←Q];rfl) ?_;exact gY (n:=σ.size) K8 (.inl (.inr rfl)) hb8 λD K'=>hR D ts8 K'.e (K'.fin h)
end Go.Ar
namespace Go.Ar
open Go Go.Vc Go.Proofs
variable {σ u u':Hp}{F B P Q:Rg}{L:dP}{H H':Hw}{t k n pb:Nat}{A:AR}{Y:Lay}{x:eH}{g:Th}{c:bX}{l:Li}{cs:List Value}
theorem sH {t' t:TypeId}{w:Value}{A B:Prop}(hne:t'≠t)(h:B):∃is:Bool,kT (.iface t' w) t [] [] is/\If is A B:=⟨false,⟨rfl,.inr ⟨_,_,rfl,hne⟩⟩,cF rfl h⟩
theorem lW {t' t:TypeId}{w:Value}{A B:Int->Prop}(hne:t'≠t)(h:B 0):∃x:Int,∃is:Bool,kT (.iface t' w) t [.int .i64 x] [.int .i64 0] is/\If is (A x) (B x):=⟨0,false,⟨rfl,.inr ⟨_,_,rfl,hne⟩⟩,cF rfl h⟩
theorem jJ {t' t:TypeId}{w:Value}{A B:Int->Int->Prop}(hne:t'≠t)(h:B 0 0):∃x:Int,∃y:Int,∃is:Bool,kT (.iface t' w) t [.int .i64 x,.int .i64 y] [.int .i64 0,.int .i64 0] is/\If is (A x y) (B x y):=⟨0,0,false,⟨rfl,.inr ⟨_,_,rfl,hne⟩⟩,cF rfl h⟩
theorem Ej {t:TypeId}{A B:Prop}(h:A):∃is:Bool,kT (.iface t (.agg #[])) t [] [] is/\If is A B:=⟨true,rfl,cJ rfl h⟩
theorem DW {t:TypeId}{a:Int}{A B:Int->Prop}(h:A a):∃x:Int,∃is:Bool,kT (.iface t (.agg #[.int .i64 a])) t [.int .i64 x] [.int .i64 0] is/\If is (A x) (B x):=⟨a,true,rfl,cJ rfl h⟩
theorem xu {t:TypeId}{a b:Int}{A B:Int->Int->Prop}(h:A a b):∃x:Int,∃y:Int,∃is:Bool,kT (.iface t (.agg #[.int .i64 a,.int .i64 b])) t [.int .i64 x,.int .i64 y] [.int .i64 0,.int .i64 0] is/\If is (A x y) (B x y):=⟨a,b,true,rfl,cJ rfl h⟩
theorem HH.tc (h:HH u P L H)(hx:L.ts[t]?=some x)(hg:H.bS[t]?=some g){b o:Nat}(ha:L.cM.a=some ⟨b,o,none⟩){d:Nat}(hd:d<3){v:Value}(hv:(jO (x,g))[d]?=some v):cell u (Addr.add ⟨b,o+3*t,none⟩ d)=some v:=by
 obtain⟨m,j,e,i⟩:=Us h.kK hx hg hd hv;rw[ha]at e;cases e;rw[add_lit,show o+3*t+d=o+(3*t+d) by omega];exact i
theorem HH.xe (h:HH u P L H)(hP:∀b,P b->b<u.size)(hx:L.ts[t]?=some x)(hg:H.bS[t]?=some g)(N:Rg)(hN:∀b,b<u.size->P b->¬N b)(oN:jh N)(oN2:¬N 1) :
 ∃G D:Rg,(∀b,G b->P b)/\(∀b,D b->P b)/\(∀b,G b->¬D b)/\im x.h g.bP u G/\(∀u1,Ext G u u1->cP L.cM 3 (ie L.ts H.bS) u1 D) ∧
 ∀(u1:Hp) (s:Sl) (bs:List Bt) (G':Rg),Ext G u u1->(∀b,G' b->G b\/N b)->im s bs u1 G'->∀{b o:Nat} (ha:L.cM.a=some ⟨b,o,none⟩) {K:aP},
  (∀u2,Ext D u1 u2->HH u2 (λb=>P b/\¬G b\/G' b/\b<u1.size) {L with ts:=L.ts.set t {x with h:=s}} {H with bS:=H.bS.set t {g with bP:=bs}}->K u2) →
  dG (Addr.add ⟨b,o+3*t,none⟩ 1) (.slice s.a s.len s.cap) u1 K:=by
 have X:=h.jA;have J:=Gx h.s.ts;have U:=(cS.1 hg).1;obtain⟨G,D,B,y,hd,M,F,_,p⟩:=h.sM hx hg N hN oN oN2;have w:∀u1,Ext G u u1->bR L.cM 3 (ie L.ts H.bS) u1 D:=λu1 e=>aI.bU F e λb _ d hx=>hd b hx d;refine⟨G,D,B,y,hd,M,λu1 e=>bR.fP (w u1 e),λu1 s bs G' e i C b o ha K V=>?_⟩;have S:o=0:=by
  rcases F.2 with⟨h0,_⟩|⟨Q,_,_,ha',_⟩
  ·omega
  ·rw[ha]at ha';cases ha';rfl
 subst S;have m:∀b,G' b->¬D b:=λb d hx=>by
  rcases i b d with h1|h1
  ·exact hd b h1 hx
  ·exact hN b (hP b (y b hx)) (y b hx) h1
 refine(w u1 e).st (j:=3*t+1) O (λQ r=>by rw[ha]at r;cases r;rw[add_lit];congr 1;omega) λu2 A z=>?_;have E:=(im.loc _ _).bU ((im.loc _ _).cut C) A λb _ d hx=>m b d.1 hx;obtain⟨W,R⟩:=p u2 s bs (Cut G' u1) D ((e.sub λb d=>.inl d).trans (A.sub λb d=>.inr d)) (λb d=>(i b d.1).imp .inl id) (λb d=>.inl (.inr d)) (λb d=>m b d.1) E z;refine V u2 A (R.mono (λb _ d=>?_) (λb (d:P b/\¬G b\/G' b/\b<u1.size)=>?_) λ(d:P _/\¬G _\/G' _/\_<u1.size)=>?_)
 ·rcases d with d|d|d
  ·exact .inl ⟨d.1,λhx=>d.2.2 (.inl hx)⟩
  ·exact .inr d
  ·exact .inl ⟨y b d,λhx=>hd b hx d⟩
 ·rcases d with d|d
  ·exact h.o b d.1
  ·exact(i b d.1).elim (λhx=>h.o b (B b hx)) (oN b)
 ·rcases d with d|d
  ·exact h.o2 d.1
  ·exact(i _ d.1).elim (λhx=>h.o2 (B _ hx)) oN2
theorem im.nt {s:Sl}{G:Rg}{xs:List Int}{r:List Bt}(h:im s ((k,xs)::r) u G):∃(so:Sl) (ps:List (Nat×Sl)) (D:Rg),dQ s 2 (fO ((k,so)::ps)) u (λb=>G b/\¬D b)/\cP so 1 (Wv xs) u (λb=>D b/\lE so b)/\so.len<=so.cap/\kW ps r u (λb=>D b/\¬lE so b)/\(∀b,D b->G b)/\vU ps/\(∀x∈r,x.2≠[])/\xs≠[]:=by
 obtain⟨ps,D,d,j,E,J,g⟩:=h;cases ps with
 | nil=>have:=j.1;simp at this
 | cons p ps=>
  obtain⟨M,so⟩:=p;obtain⟨z,y,w⟩:=j.2 0 (M,so) (k,xs) rfl rfl;simp only at z y w;subst z;have e:=mA.1 J;refine⟨so,ps,D,d,y.mW,w,⟨by have:=j.1;simpa using this,λi p x A m=>?_⟩,E,e.2,λx m=>g x (lz _ m),g _ lB⟩;obtain⟨F,L,C⟩:=j.2 (i+1) p x (by simpa using A) (by simpa using m);refine⟨F,aH.mono L.mW λb _ B=>⟨B.1,?_⟩,C⟩;rintro⟨a,h1,h2⟩;obtain⟨K,N,H⟩:=B.2;exact e.1 p (zE A) a K h1 N (h2.trans H.symm)
theorem im.mR {s:Sl}{G:Rg}{b:Bt}{r:List Bt}(h:im s (b::r) u G):im ⟨if s.cap=1 then s.a else s.a.map (·.add (1*2)),s.len-1,s.cap-1⟩ r u G:=by
 have w:=h.len;obtain⟨k,A⟩:=b;obtain⟨x,m,D,d,z,y,g,i,j,e,B⟩:=h.nt;exact⟨m,D,d.from (lo:=1) (by simp at w;omega),(kW.loc _ _).mono g λb _ p=>p.1,i,j,e⟩
theorem Jx {s so:Sl}{ps:List (Nat×Sl)}{G:Rg}(h:cP s 2 (fO ((k,so)::ps)) u G){K:Addr->Prop}(hK:∀a,cell u (Addr.add a 0)=some (.int .i64 (k:Int))->cell u (Addr.add a 1)=some (.slice so.a so.len so.cap)->K a):Ix s.a s.len 0 2 K:=by
 obtain⟨b,o,i,m⟩:=h.cell (j:=0) (v:=.int .i64 (k:Int)) rfl;obtain⟨r,p,d,e⟩:=h.cell (j:=1) (v:=.slice so.a so.len so.cap) rfl;have g:=h.1;rw[KF]at g;simp only[zQ]at g;rw[i]at d;cases d;rw[i];refine ix O O ?_;rw[add_lit];exact hK _ (by rw[add_lit];exact m) (by rw[add_lit];exact e)
theorem im.app {s s2:Sl}{G Q:Rg}{bs bs2:List Bt}{e:Nat}(h:im s bs u G)(h2:im s2 bs2 u Q)(hd:∀b,G b->¬Q b)(hl:bs.length+bs2.length<=1000){K:Sl->Hp->Prop}
 (hK:∀s' u',Ext G u u'->im s' (bs++bs2) u' (λb=>G b\/Q b\/u.size<=b)->K s' u'):App s 2 32 e [.int .i64 0,.slice none 0 0] s2 u K:=by
 have l1:=h.len;have l2:=h2.len;obtain⟨M,D,w,F,U,H,A⟩:=h;obtain⟨E,D2,z,m,r,R,y⟩:=h2;by_cases h0:s2.len=0
 ·have Z:bs2=[]:=CG O;subst Z;refine w.DO h0 (by
   have:s.len*32<=1000*32:=kU (by simp at hl;omega) O;omega) (by simp at hl;omega) λW=>hK _ u (Ext.refl _ _) ?_
  rw[km];exact⟨M,D,(dQ.loc _ _ _).mono W λb _ d=>⟨.inl d.1,d.2⟩,F,λb d=>.inl (U b d),H,A⟩
 ·have e1:(s.len+s2.len)*32<=1000*32:=kU O O;refine((dQ.loc _ _ _).cut w).app (ys:=fO E) rfl (by rw[KF];have:=m.1;omega) z.fP.rd HL O O O λs' u' _ L W=>hK s' u' (L.sub λb d=>d.1.1) ?_;have hz:=L.1;have Y:=F.1;refine⟨M++E,λb=>D b/\b<u.size\/D2 b/\b<u.size,?_,⟨by simp[F.1,m.1],λi p x B g=>?_⟩,λb d=>?_,oe.2 ⟨H,R,λp B q hq a a' N S e3=>?_⟩,λx g=>(zP.1 g).elim (A x) (y x)⟩
  ·rw[Hh];refine(dQ.loc _ _ _).mono W λb _ d=>?_;rcases d with d|d
   ·exact⟨.inl d.1.1,λg=>g.elim (λg=>d.1.2 g.1) λg=>hd b d.1.1 (r b g.1)⟩
   ·exact⟨.inr (.inr d),λg=>by rcases g with g|g<;>omega⟩
  ·rcases mw i M.length with C|C
   ·rw[zg C]at B;rw[zg O]at g;obtain⟨V,X,P⟩:=F.2 i p x B g;exact⟨V,aH.mono (aH.bU (aH.cut X) L λb _ d g=>g.1.2 d.1) λb _ d=>.inl d,P⟩
   ·rw[zi C]at B;rw[zi O,←Y]at g;obtain⟨V,X,P⟩:=m.2 _ p x B g;exact⟨V,aH.mono (aH.bU (aH.cut X) L λb _ d g=>hd b g.1.1 (r b d.1)) λb _ d=>.inr d,P⟩
  ·rcases d with d|d
   ·exact .inl (U b d.1)
   ·exact .inr (.inl (r b d.1))
  ·obtain⟨i,C⟩:=zL B;obtain⟨j,H⟩:=zL hq;have hil:=(cS.1 C).1;have hjl:=(cS.1 H).1;have hy:bs[i]?=some (bs[i]' O):=cL _;have J:bs2[j]?=some (bs2[j]'(by have:=m.1;omega)):=cL _;have b1:=(F.2 i p _ C hy).2.1.cA (by simpa[Wv]using A _ (zE hy)) ⟨a,N,rfl⟩;have b2:=(m.2 j q _ H J).2.1.cA (by simpa[Wv]using y _ (zE J)) ⟨a',S,rfl⟩;rw[e3]at b1;exact hd _ (U _ b1.1) (r _ b2.1)
theorem HK.wx (K:HK F σ B u P L H){B':Rg}(h1:∀b,B' b->σ.size<=b/\b<u.size/\¬P b):HK F σ (λb=>B b\/B' b) u P L H:=
 ⟨K.h,K.e,λb a=>⟨(K.p b a).1,λg=>g.elim (K.p b a).2.1 λd=>(h1 b d).2.2 a,(K.p b a).2.2⟩,λb a=>a.elim (K.b b) λd=>⟨(h1 b d).1,(h1 b d).2.1⟩,K.o⟩
theorem ZS (hg:H.bS[t]?=some g)(f:Th->Th):H.eA t f = {H with bS:=H.bS.set t (f g)}:=by
 unfold Hw.eA;rw[Vg hg]
theorem G6 (hg:H.bS[t]?=some g):H.kE t=g:=by unfold Hw.kE;rw[zN,hg];rfl
theorem Uo (hc:H.tb[k]?=some c):H.cls k=c:=by unfold Hw.cls;rw[zN,hc];rfl
theorem Ab (hl:g.ls[k]?=some l):g.li k=l:=by unfold Th.li;rw[zN,hl];rfl
theorem Cw (ha:H.bT[H.own t]?=some A):H.eN t=A:=by unfold Hw.eN;rw[zN,ha];rfl
theorem kG (h:HS L H)(t:Nat):H.own t<H.bT.length:=vW _ (by have:=h.a1;omega)
theorem HH.Cn (h:HH u P L H)(hx:L.ts[t]?=some x)(hg:H.bS[t]?=some g):g.ls.length=H.tb.length:=by
 obtain⟨G,_,a,_⟩:=h.qh hx hg;exact a.len
theorem Mg (ha:H.bT[k]?=some A):H.cB k A=H:=by unfold Hw.cB;rw[Qt ha]
theorem Χ (l:List Nat):ints l=Wv (l.map λ(x:Nat)=>(x:Int)):=by simp[ints,Wv]
theorem DV (f:bX->Li->List Int×Li)(tb:List bX)(ls:List Li):(Ki f tb ls).length<=tb.length:=by
 unfold Ki;exact zI (List.length_filterMap_le _ _) aA
theorem HH.ng (h:HH u P L H):H.tb.length<=40:=by
 obtain⟨x,g,b,d⟩:=h.th (t:=0) h.s.t1;obtain⟨G,_,a,_⟩:=h.qh b d;exact a.nU
theorem Ξ {s:Sl}{b o:Nat}(ha:s.a=some ⟨b,o,none⟩)(hl:0<s.len){K:Addr->Prop}(hK:K ⟨b,o+0,none⟩):Ix s.a s.len 0 1 K:=by
 rw[ha];exact ix (rp _) O (by rw[add_lit];exact hK)
theorem Oc {s:Sl}{ps:List (Nat×Sl)}{G:Rg}(h:cP s 2 (fO ps) σ G)(hl:s.len<=1000000){R:Sl->Hp->Prop}(hR:∀s' σ',s'.len=s.len->bO σ σ'->bR s' 2 (fO ps) σ' (λb=>σ.size<=b)->R s' σ'):Wq.c s σ R:=by
 refine Wq.o ?_;exact yC h O rfl HL O hl hR
def vF (H:Hw)(t:Nat):Ph->Prop
 | .take k=>k<H.tb.length/\∀y l,Kj (H.cls k) ((H.kE t).li k)=(some y,l)->iF y
 | .cO k _=>k<H.tb.length/\(Qd (H.eN t) (k:Int)=0->YP (H.eN t) (k:Int)≠[])
 | .cQ _ _=>True
 | .grow _ _=>True
 | .fill=>∃k x xs r,(H.kE t).bP=(k,x::xs)::r/\k<H.tb.length/\iF x/\((H.kE t).li k).os.length+xs.length<=256
 | .eT m=>Qb (H.eN t) H.sp (m:Int) 1<=1000000
 | .find x=>iF x/\(bV H.live x=none->∀A∈H.bT,iO A)/\∀b,bV H.live x=some b->0<=x
 | .put k _=>k<H.tb.length/\(H.kE t).bP≠[]
 | .back=>∃k xs r,(H.kE t).bP=(k,xs)::r/\(∀x∈xs,iF x/\0<=Ye H.bT x)/\xs.length<=1000000
 | .dK _ a=>0<=a/\a.toNat<H.bT.length/\∀A∈H.bT,∀r∈A.runs,r.1<=1000000
 | .drain=>True
def OE (σ:Hp)(F:Rg)(L:dP)(o:uY)(R:Value->Int->Int->Hp->Prop):Prop:=∀σ' ts',Ext F σ σ'->HH σ' (Grow F σ) {L with ts:=ts'} o.1->R (og o.2.1) o.2.2.1 o.2.2.2 σ'
end Go.Ar