/- Texts joined. -/
import Derived.Test.YtkabjcanamcbeaaGreatDoorU4
set_option linter.unusedVariables false
set_option linter.unusedSimpArgs false
namespace Go.Ar
open Go Go.Vc Go.Proofs
variable {σ:Hp}
theorem Wbt:∀(xs:List (Int×Int×Int)),WbC xs=true↔∀(i:Nat) a b,xs[i]?=some a->xs[i+1]?=some b->a.1<b.1
 | []=>by simp[WbC]
 | [x]=>by simp[WbC]
 | x::y::l=>by
  have ih:=Wbt (y::l);show(decide (x.1<y.1)&&WbC (y::l))=true↔_;rw[zF,ih,zS];constructor
  ·rintro⟨h1,h2⟩ i a b e d;cases i with
   | zero=>simp at e d;subst e;subst d;exact h1
   | succ i=>exact h2 i a b (by simpa using e) (by simpa using d)
  ·intro h;exact⟨h 0 x y rfl rfl,λi a b e d=>h (i+1) a b (by simpa using e) (by simpa using d)⟩
theorem Qr (xs:List (Int×Int×Int)):Qi xs=true↔1<=xs.length/\xs.length<=40/\(∀(i:Nat) t,xs[i]?=some t->Us t.1 t.2.1 t.2.2=true)/\∀(i:Nat) a b,xs[i]?=some a->xs[i+1]?=some b->a.1<b.1:=by
 unfold Qi;simp only[zF,zS,Wbt,zAB];constructor
 ·rintro⟨h1,h2,h3,h4⟩;exact⟨h1,h2,λi t d=>h3 t (zE d),h4⟩
 ·rintro⟨h1,h2,h3,h4⟩;exact⟨h1,h2,λt d=>by obtain⟨i,e⟩:=zN d;exact h3 i t e,h4⟩
theorem Ho {s:Sl}{xs:List (Int×Int×Int)}(ha:Acts σ s xs){R:aO}(hR:∀σ',Ext0 σ σ'->R (Qi xs) σ'):ZG.c s σ R:=by
 refine ZG.o ?_;unfold ZG.v;have P:∀σ',Ext0 σ σ'->¬(1<=xs.length/\xs.length<=40/\(∀(i:Nat) t,xs[i]?=some t->Us t.1 t.2.1 t.2.2=true)/\∀(i:Nat) a b,xs[i]?=some a->xs[i+1]?=some b->a.1<b.1)->R false σ':=λσ' e hn=>by
  have:=hR σ' e;have hf:Qi xs=false:=by rw[←zCM,Qr];exact hn
  rw[hf]at this;exact this
 have X:=ha.1;refine JnB.intro (ifD (λc1=>ifT rfl (P σ (Ext.refl _ _) λh=>O)) λc1=>?_);refine ifD (λc2=>P σ (Ext.refl _ _) λh=>O) λc2=>?_;refine ZT (a:=bN) (λ(t:Int) v=>∃i:Nat,t=(i:Int)/\i<=xs.length/\Ext0 σ v/\(∀(j:Nat) t,j<i->xs[j]?=some t->Us t.1 t.2.1 t.2.2=true)/\∀(j:Nat) a b,j+1<i->xs[j]?=some a->xs[j+1]?=some b->a.1<b.1) (λt _=>xs.length-t.toNat)
  ⟨0,rfl,O,Ext.refl _ _,λj t h=>O,λj a b h=>O⟩ ?_
 rintro t v ⟨i,rfl,N,e,Z,Y⟩;have L:=YN ha e;refine ifD (λhlt=>?_) λhge=>?_
 ·have Q:i<xs.length:=by omega
  have B:xs[i]?=some xs[i]:=gGe Q;generalize xs[i]=r at B;obtain⟨x,y,z⟩:=r;refine U8 L B ?_;refine nw (cs:=[.int .i64 0,.int .i64 0,.int .i64 0]) λv2 hz2 e2 b2=>b2.s1 aA λv3 o3 b3=>b3.s1 aA λv4 o4 b4=>b4.s1 aA λv5 o5 J=>?_;have e5:Ext0 v v5:=Ext.fresh (Ext.fresh (Ext.fresh e2 o3.ext λi N=>O) o4.ext λi N=>O) o5.ext λi N=>by omega
  refine Jn.intro ⟨(· = v5),rfl,⟨x,λm F=>by rw[F,add_lit,J.cell];rfl,⟨y,λm F=>by rw[F,add_lit,J.cell];rfl,⟨z,λm F=>by rw[F,add_lit,J.cell];rfl,?_⟩⟩⟩⟩;refine Whs x y z λv7 V=>?_;have w:=(Ext.trans e e5).trans V;have E:(Us x y z=false\/∃a,0<i/\xs[i-1]?=some a/\x<=a.1)->R false v7:=λU=>P v7 w λH=>by
   rcases U with U|⟨a,K,hb1,hb2⟩
   ·have:=H.2.2.1 i _ B;simp only at this;rw[U]at this;cases this
   ·have:=H.2.2.2 (i-1) a (x,y,z) hb1 (by rw[show i-1+1=i by omega];exact B);simp only at this;omega
  cases hc:Us x y z
  ·exact ifT rfl (ifT rfl (E (.inl hc)))
  ·have next:(∀a,0<i->xs[i-1]?=some a->a.1<x)->Ar .i64 ((i:Int)+1) λg=>(∃i:Nat,g=(i:Int)/\i<=xs.length/\Ext0 σ v7/\(∀(j:Nat) t,j<i->xs[j]?=some t->Us t.1 t.2.1 t.2.2=true)/\∀(j:Nat) a b,j+1<i->xs[j]?=some a->xs[j+1]?=some b->a.1<b.1)/\xs.length-g.toNat<xs.length-(i:Int).toNat:=by
    intro K;refine arN (m:=i+1) O O ⟨⟨i+1,rfl,O,w,λj t hj A=>?_,λj a b hj p d=>?_⟩,O⟩
    ·by_cases hji:j=i
     ·subst hji;rw[B]at A;cases A;exact hc
     ·exact Z j t O A
    ·by_cases hji:j+1=i
     ·subst hji;rw[B]at d;cases d;exact K a O p
     ·exact Y j a b O p d
   refine ifF rfl (ifD (λK=>?_) λK=>ifF rfl (next λa hp2=>O))
   have u:xs[i-1]?=some (xs[i-1]' O):=gGe _;generalize xs[i-1]' O=r at u;obtain⟨M,y',z'⟩:=r;have C:=YN ha w;obtain⟨b,o,g1,g2,g3,g4,g5⟩:=C.2 (i-1) M y' z' u;have W:=V.blk J id;refine arN (m:=i-1) O O ?_;rw[g1];refine ix O O ?_;have D:cell v7 ⟨b,o+(((i-1:Nat):Int)).toNat*3+0,none⟩=some (.int .i64 M):=by simpa using g3
   have fin:If (decide (x<=M)) (R false v7) (Ar .i64 ((i:Int)+1) λg=>(∃i:Nat,g=(i:Int)/\i<=xs.length/\Ext0 σ v7/\(∀(j:Nat) t,j<i->xs[j]?=some t->Us t.1 t.2.1 t.2.2=true)/\∀(j:Nat) a b,j+1<i->xs[j]?=some a->xs[j+1]?=some b->a.1<b.1)/\xs.length-g.toNat<xs.length-(i:Int).toNat):=by
    refine ifD (λS=>E (.inr ⟨_,O,u,S⟩)) λhgt=>next λa _ G=>?_
    rw[u]at G;cases G;simp only;omega
   rw[add_lit b o];exact⟨W.rI rfl (ldI0 D fin),ldI0 D (W.rI rfl fin)⟩
 ·have:i=xs.length:=by omega
  subst this;have H:Qi xs=true:=(Qr xs).2 ⟨O,O,λi t A=>Z i t (gSi.1 A).1 A,λi a b p d=>Y i a b (gSi.1 d).1 p d⟩;have:=hR v e;rw[H]at this;exact this
end Go.Ar
namespace Go.Ar
open Go Go.Vc Go.Proofs
open Go.Bu (Zf QM Zu cnt)
variable {σ:Hp}{F H:Rg}{p hs:Nat}{A:AR}{sp:Sp}{Y:Lay}{T:Nat->Hp->Rg->Prop}
open Classical in
theorem _root_.Go.Vc.Sep.put {L:Type}{C C':L->Hp->Rg->Prop}{σ:Hp}{F G:Rg}(hC:∀i,Lcl (C i))(h:Sep C σ F)(i:L)(hd:∀b,G b->¬F b)(hj:∀j,j≠i->C' j=C j)(hi:C' i σ G)(hL:Lcl (C' i)):Sep C' σ λb=>F b\/G b:=by
 obtain⟨ρ,h⟩:=h;refine⟨λb=>if G b then i else ρ b,λj=>?_⟩
 by_cases hji:j=i
 ·subst hji;exact hL.mono hi λb _ d=>⟨.inr d,zB d⟩
 ·rw[hj j hji];refine(hC j).mono (h j) λb _ a=>⟨.inl a.1,?_⟩;show(if G b then i else ρ b)=j
  rw[zA λe=>hd b e a.1];exact a.2
def ACh (A:AR)(Y:Lay)(T:Nat->Hp->Rg->Prop)(cs:List Value):Lb->Hp->Rg->Prop
 | .hd=>BlkR Y.p cs
 | i=>AC A Y T i
theorem ACh.loc {cs:List Value}(hT:∀k,Lcl (T k)):∀i,Lcl (ACh A Y T cs i)
 | .hd=>BlkR.loc _ _
 | .tab=>AC.loc (A:=A) (Y:=Y) hT .tab
 | .free=>AC.loc (A:=A) (Y:=Y) hT .free
 | .trk=>AC.loc (A:=A) (Y:=Y) hT .trk
 | .own=>AC.loc (A:=A) (Y:=Y) hT .own
 | .crow=>AC.loc (A:=A) (Y:=Y) hT .crow
 | .trow=>AC.loc (A:=A) (Y:=Y) hT .trow
 | .runs=>AC.loc (A:=A) (Y:=Y) hT .runs
 | .cen k=>AC.loc (A:=A) (Y:=Y) hT (.cen k)
 | .tra k=>AC.loc (A:=A) (Y:=Y) hT (.tra k)
theorem Wod:ACh A Y T (hdV Y)=AC A Y T:=by
 funext i;cases i<;>rfl
theorem Wf1 {cs:List Value}(hT:∀k,Lcl (T k))(h:Sep (ACh A Y T cs) σ F)(hlen:A.cen.length<=Y.cps.length)(hl:Y.cps.length<=40){vb cp ty:Nat}(hb:Blk σ vb [.pointer (some ⟨cp,0,none⟩)])(hvb:¬F vb){K:Sl->Hp->Prop}
 (hK:∀s' σ',Ext F σ σ'->Sep (ACh A {Y with crow:=s',cps:=Y.cps++[cp]} T cs) σ' (Grow F σ)->K s' σ'):App Y.crow 1 8 ty [.pointer none] ⟨some ⟨vb,0,none⟩,1,1⟩ σ K:=by
 obtain⟨G,g,d,_,a⟩:=h.stepD (ACh.loc hT) .crow;have d:RowR Y.crow 1 (ptrV Y.cps) σ G:=d;have p:Y.crow.len=Y.cps.length:=by have:=d.1;simp[ptrV]at this;omega
 refine d.app (ys:=[.pointer (some ⟨cp,0,none⟩)]) rfl rfl ?_ (by simp[one1]) aC aC zBG λs' σ' r e i=>hK s' σ' (e.sub g) ?_
 ·intro j u hu;rw[add_lit,zG,hb.cell];exact hu
 refine(Sep.loc (ACh.loc hT)).mono (a σ' (ACh A {Y with crow:=s',cps:=Y.cps++[cp]} T cs) (Grow G σ) (λj m=>?_) e (λb hb=>hb) ?_ (ACh.loc hT _)) λb _ hb=>U0 g (λb hb=>hb) b hb
 ·cases j<;>first|rfl|exact absurd rfl m|skip
  rename_i k;show CenR (Y.cps++[cp])[k]? A.tb[k]? A.cen[k]?=CenR Y.cps[k]? A.tb[k]? A.cen[k]?;rcases zAO k Y.cps.length with h1|h1
  ·rw[zd h1]
  ·have:A.cen[k]?=none:=zZ O;rw[this]
   funext σ F
   unfold CenR;cases(Y.cps++[cp])[k]?<;>cases Y.cps[k]?<;>cases A.tb[k]?<;>rfl
 ·show RowR s' 1 (ptrV (Y.cps++[cp])) σ' (Grow G σ);have:ptrV (Y.cps++[cp])=ptrV Y.cps++[.pointer (some ⟨cp,0,none⟩)]:=by simp[ptrV]
  rw[this];exact i
theorem Wjp (hlen:A.tra.length<=Y.tps.length)(tp:Nat)(s':Sl):traT A {Y with trow:=s',tps:=Y.tps++[tp]}=traT A Y:=by
 funext k
 unfold traT;simp only;rcases zAO k Y.tps.length with h1|h1
 ·rw[zd h1]
 ·have:A.tra[k]?=none:=zZ O;rw[this]
  funext σ F
  unfold TraR;cases(Y.tps++[tp])[k]?<;>cases Y.tps[k]?<;>cases A.tb[k]?<;>rfl
theorem Wfq {cs:List Value}(h:Sep (ACh A Y (traT A Y) cs) σ F)(hlen:A.tra.length<=Y.tps.length)(hl:Y.tps.length<=40){vb tp ty:Nat}(hb:Blk σ vb [.pointer (some ⟨tp,0,none⟩)])(hvb:¬F vb){K:Sl->Hp->Prop}
 (hK:∀s' σ',Ext F σ σ'->Sep (ACh A {Y with trow:=s',tps:=Y.tps++[tp]} (traT A {Y with trow:=s',tps:=Y.tps++[tp]}) cs) σ' (Grow F σ)->K s' σ'):App Y.trow 1 8 ty [.pointer none] ⟨some ⟨vb,0,none⟩,1,1⟩ σ K:=by
 have g:∀k,Lcl (traT A Y k):=λk=>traT.loc k;obtain⟨G,i,d,_,a⟩:=h.stepD (ACh.loc g) .trow;have d:RowR Y.trow 1 (ptrV Y.tps) σ G:=d;have r:Y.trow.len=Y.tps.length:=by have:=d.1;simp[ptrV]at this;omega
 refine d.app (ys:=[.pointer (some ⟨tp,0,none⟩)]) rfl rfl ?_ (by simp[one1]) aC aC zBG λs' σ' s e p=>hK s' σ' (e.sub i) ?_
 ·intro j u hu;rw[add_lit,zG,hb.cell];exact hu
 rw[Wjp hlen];refine(Sep.loc (ACh.loc g)).mono (a σ' (ACh A {Y with trow:=s',tps:=Y.tps++[tp]} (traT A Y) cs) (Grow G σ) (λj m=>?_) e (λb hb=>hb) ?_ (ACh.loc g _)) λb _ hb=>U0 i (λb hb=>hb) b hb
 ·cases j<;>first|rfl|exact absurd rfl m
 ·show RowR s' 1 (ptrV (Y.tps++[tp])) σ' (Grow G σ);have:ptrV (Y.tps++[tp])=ptrV Y.tps++[.pointer (some ⟨tp,0,none⟩)]:=by simp[ptrV]
  rw[this];exact p
theorem Wom {cs:List Value}(hT:∀k,Lcl (T k))(h:Sep (ACh A Y T cs) σ F){i:Nat}{v:Value}(hi:i<cs.length){K:aP}(hK:∀σ',Ext F σ σ'->Sep (ACh A Y T (cs.set i v)) σ' F->K σ'):St1 (Addr.add ⟨Y.p,0,none⟩ i) v σ K:=by
 obtain⟨G,g,d,_,e⟩:=h.stepD (ACh.loc hT) .hd;have d:BlkR Y.p cs σ G:=d;refine d.2.s1 O λσ' o b=>hK σ' (o.ext.sub λb a=>by subst a;exact g _ d.1) ?_;rw[zG]at b;refine(Sep.loc (ACh.loc hT)).mono (e σ' (ACh A Y T (cs.set i v)) G (λj m=>?_) (o.ext.sub λb a=>by subst a;exact d.1) (λb a=>.inl a) ⟨d.1,b⟩ (ACh.loc hT _)) λb _ a=>Wcl g (λb a=>a) b a;cases j<;>first|rfl|exact absurd rfl m
theorem hdCh {cs:List Value}(h:Sep (ACh A Y T cs) σ F):Blk σ Y.p cs/\F Y.p:=by
 obtain⟨G,d,a,b⟩:=h.get .hd;exact⟨b,d _ a⟩
theorem WmU {cs:List Value}{i cp tp:Nat}{c:Cls}{ss:List SpA}{t:TrA}{ps:List (Nat×Nat)}{Gc Gt:Rg}(h:Sep (ACh A Y (traT A Y) cs) σ F)(hlc:A.cen.length=i)(hlt:A.tra.length=i)(hcp:Y.cps[i]?=some cp)(htp:Y.tps[i]?=some tp)(hc:A.tb[i]?=some c)
 (hC:CeH σ Gc cp c ps ss) (hTf:TfH σ Gt tp c.batch A.room t) (d1:∀b,Gc b->¬F b) (d2:∀b,Gt b->¬F b) (d3:∀b,Gc b->¬Gt b) :
 Sep (ACh {A with cen:=A.cen++[ss],tra:=A.tra++[t]} Y (traT {A with cen:=A.cen++[ss],tra:=A.tra++[t]} Y) cs) σ λb=>(F b\/Gc b)\/Gt b:=by
 have d:∀k,Lcl (traT A Y k):=λk=>traT.loc k;have u:Sep (ACh {A with cen:=A.cen++[ss]} Y (traT A Y) cs) σ λb=>F b\/Gc b:=by
  refine h.put (ACh.loc d) (.cen i) d1 (λj g=>?_) ?_ (ACh.loc d _)
  ·cases j<;>first|rfl|skip
   rename_i k;have m:k≠i:=λe=>g (by rw[e]);show CenR Y.cps[k]? A.tb[k]? (A.cen++[ss])[k]?=CenR Y.cps[k]? A.tb[k]? A.cen[k]?;rcases zAO k i with h2|h2
   ·rw[zd O]
   ·have r:(A.cen++[ss])[k]?=none:=zZ (by rw[zK,zDN];omega);have p:A.cen[k]?=none:=zZ O;rw[r,p]
  ·show CenR Y.cps[i]? A.tb[i]? (A.cen++[ss])[i]? σ Gc;rw[hcp,hc,zm O,hlc,zBY];exact⟨ps,hC⟩
 refine u.put (ACh.loc d) (.tra i) (λb s a=>?_) (λj g=>?_) ?_ (ACh.loc (λk=>traT.loc k) _)
 ·rcases a with a|a
  ·exact d2 b s a
  ·exact d3 b a s
 ·cases j<;>first|rfl|skip
  rename_i k;have m:k≠i:=λe=>g (by rw[e]);show TraR Y.tps[k]? A.tb[k]? A.room (A.tra++[t])[k]?=TraR Y.tps[k]? A.tb[k]? A.room A.tra[k]?;rcases zAO k i with h2|h2
  ·rw[zd O]
  ·have r:(A.tra++[t])[k]?=none:=zZ (by rw[zK,zDN];omega);have p:A.tra[k]?=none:=zZ O;rw[r,p]
 ·show TraR Y.tps[i]? A.tb[i]? A.room (A.tra++[t])[i]? σ Gt;rw[htp,hc,zm O,hlt,zBY];exact hTf
open Classical in
noncomputable def Prt {L:Type}(C:L->Hp->Rg->Prop)(S:L->Prop)(i:L):Hp->Rg->Prop:=if S i then C i else Wk8
theorem Prt.loc {L:Type}{C:L->Hp->Rg->Prop}{S:L->Prop}(hC:∀i,Lcl (C i))(i:L):Lcl (Prt C S i):=by
 unfold Prt;split
 ·exact hC i
 ·exact Wk8.loc
theorem Prt.put {L:Type}{C:L->Hp->Rg->Prop}{S:L->Prop}{F G:Rg}(hC:∀i,Lcl (C i))(h:Sep (Prt C S) σ F)(i:L)(hd:∀b,G b->¬F b)(hi:C i σ G):Sep (Prt C λj=>S j\/j=i) σ λb=>F b\/G b:=by
 refine h.put (Prt.loc hC) i hd (λj a=>?_) ?_ (Prt.loc hC i)
 ·unfold Prt;by_cases hS:S j
  ·rw[zB (.inl hS),zB hS]
  ·rw[zA (λh=>hS (h.resolve_right a)),zA hS]
 ·unfold Prt;rw[zB (.inr rfl)];exact hi
theorem Prt.all {L:Type}{C:L->Hp->Rg->Prop}{S:L->Prop}{F:Rg}(h:Sep (Prt C S) σ F)(hS:∀i,S i):Sep C σ F:=by
 have:Prt C S=C:=by
  funext i;unfold Prt;rw[zB (hS i)]
 rw[this]at h;exact h
theorem Prt.one {L:Type}{C:L->Hp->Rg->Prop}(S:L->Prop)(l:L)(h:∀i,S i->C i σ λ_=>False):Sep (Prt C S) σ λ_=>False:=by
 refine⟨λ_=>l,λi=>?_⟩;have:(λ(b:Nat)=>False/\l=i)=λ_=>False:=by funext b;simp
 rw[this];unfold Prt;by_cases hS:S i
 ·rw[zB hS];exact h i hS
 ·rw[zA hS];trivial
theorem Wfj {tb:List Cls}:∀v∈tabV tb,one1 v=true:=by
 intro v hv;simp only[tabV,zCP]at hv;obtain⟨c,_,a⟩:=hv;simp at a;rcases a with rfl|rfl|rfl<;>rfl
theorem UL {s:Sl}{xs:List (Int×Int×Int)}(ha:Acts σ s xs)(hv:Qi xs=true){i:Nat}{c:Cls}(hc:(xs.map ZV)[i]?=some c):xs[i]?=some ((c.size:Int),(c.pages:Int),(c.batch:Int))/\c.ok:=by
 rw[ze,zCJ]at hc;obtain⟨⟨x,y,z⟩,d,rfl⟩:=hc;obtain⟨c,a,j,g,b,e⟩:=G0 (((Qr xs).1 hv).2.2.1 i _ d);simp only at g b e;rw[j,d,g,b,e];exact⟨rfl,a⟩
theorem VW {s:Sl}{xs:List (Int×Int×Int)}(ha:Acts σ s xs)(hv:Qi xs=true){R:Sl->Hp->Prop}(hR:∀s' σ',Ext0 σ σ'->SlR s' 3 (tabV (xs.map ZV)) σ' (λb=>σ.size<=b)->R s' σ'):Wc.c s σ R:=by
 refine Wc.o ?_;unfold Wc.v;have L:=(Qr xs).1 hv;have y:=ha.1;have m:0<(xs.map ZV).length:=by rw[za];omega
 have J:(xs.map ZV)[0]?=some (xs.map ZV)[0]:=gGe m;obtain⟨M,d,a,_⟩:=ha.2 0 _ _ _ (UL ha hv J).1;refine ifF (by rw[a];rfl) (nw (cs:=[]) λv K A B=>?_);have p:=YN ha A;refine(RowR.nil v (λb=>σ.size<=b) 3 (some ⟨σ.size,0,none⟩)).app (ys:=tabV (xs.map ZV)) rfl (by rw[KE,za];omega) ?_ Wfj aC aC O λs' E C G e=>hR s' E (Ext.fresh A G λi r=>r) ?_
 ·rw[a];intro j u hu;have x:=(gSi.1 hu).1;rw[KE,za]at x;have r:j/3<(xs.map ZV).length:=by rw[za];omega
  have w:(xs.map ZV)[j/3]?=some (xs.map ZV)[j/3]:=gGe r;generalize (xs.map ZV)[j/3]=c at w;have g:=HN w;obtain⟨b,o,z,_,F,D,H⟩:=p.2 (j/3) _ _ _ (UL ha hv w).1;rw[a]at z;cases z;rw[add_lit];rcases(by omega:j=3*(j/3)\/j=3*(j/3)+1\/j=3*(j/3)+2)with hj|hj|hj
  ·rw[hj]at hu;rw[g.1]at hu;cases hu;rw[show d+j=d+j/3*3 by omega];exact F
  ·rw[hj]at hu;rw[g.2.1]at hu;cases hu;rw[show d+j=d+j/3*3+1 by omega];exact D
  ·rw[hj]at hu;rw[g.2.2]at hu;cases hu;rw[show d+j=d+j/3*3+2 by omega];exact H
 ·rw[zBW]at e;refine aH.mono e.slR λb _ g=>?_;rcases g with h|h
  ·exact h
  ·omega
def newA (n room:Nat)(tb:List Cls):AR:={n:=n,room:=room,tb:=tb,S:=Go.Bu.emptyS,st:=List.replicate n 0,ow:=λ_=>0,cen:=List.replicate tb.length [],tra:=List.replicate tb.length ⟨0,[]⟩,runs:=[]}
def newP (n room:Nat)(tb:List Cls)(i:Nat):AR:={newA n room tb with cen:=List.replicate i [],tra:=List.replicate i ⟨0,[]⟩}
def newE (xs:List (Int×Int×Int))(n:Nat)(room:Int):Int:=if Qi xs then(if 32<=n/\n%16=0/\0<=room/\room<=8 then 0 else 1)else 2
def S0:Lb->Prop
 | .crow | .trow | .cen _ | .tra _=>True
 | _=>False
theorem WfF {i cp tp:Nat}{c:Cls}{ss:List SpA}{t:TrA}{ps:List (Nat×Nat)}{Gc Gt:Rg}{crow trow:Sl}(hpos:Y.cps.length=i/\Y.tps.length=i)
 (h:Sep (ACh A {Y with crow:=crow,trow:=trow,cps:=Y.cps++[cp],tps:=Y.tps++[tp]} (traT A {Y with crow:=crow,trow:=trow,cps:=Y.cps++[cp],tps:=Y.tps++[tp]}) (hdV Y)) σ F)
 (hlc:A.cen.length=i) (hlt:A.tra.length=i) (hc:A.tb[i]?=some c) (hC:CeH σ Gc cp c ps ss) (hTf:TfH σ Gt tp c.batch A.room t) (d1:∀b,Gc b->¬F b) (d2:∀b,Gt b->¬F b) (d3:∀b,Gc b->¬Gt b) {K:aP}
 (hK:∀σ' Y',Ext F σ σ'->Y'.p=Y.p->Y'.hs=Y.hs->Y'.cps.length=i+1->Y'.tps.length=i+1->Sep (ACh {A with cen:=A.cen++[ss],tra:=A.tra++[t]} Y' (traT {A with cen:=A.cen++[ss],tra:=A.tra++[t]} Y') (hdV Y')) σ' (λb=>(F b\/Gc b)\/Gt b)->K σ') :
 NilP (some ⟨Y.p,0,none⟩) λa93=>St1 (a93.add 5) (.slice crow.a crow.len crow.cap) σ λv25=>NilP (some ⟨Y.p,0,none⟩) λa95=>St1 (a95.add 6) (.slice trow.a trow.len trow.cap) v25 K:=by
 have s:∀k,Lcl (traT A {Y with crow:=crow,trow:=trow,cps:=Y.cps++[cp],tps:=Y.tps++[tp]} k):=λk=>traT.loc k;refine nilP (Wom (Y:={Y with crow:=crow,trow:=trow,cps:=Y.cps++[cp],tps:=Y.tps++[tp]}) s h (i:=5) (by simp[hdV]) λz m x=>nilP (Wom (Y:={Y with crow:=crow,trow:=trow,cps:=Y.cps++[cp],tps:=Y.tps++[tp]}) s x (i:=6) (by simp[hdV]) λy g u=>?_));have r:=(CeH.loc (c:=c) (ps:=ps) (ss:=ss) (p:=cp)).keep ((CeH.loc (c:=c) (ps:=ps) (ss:=ss) (p:=cp)).keep hC m λb _ e d=>d1 b e d) g λb _ e d=>d1 b e d;have j:=(TfH.loc (p:=tp) (batch:=c.batch) (room:=A.room) (t:=t)).keep ((TfH.loc (p:=tp) (batch:=c.batch) (room:=A.room) (t:=t)).keep hTf m λb _ e d=>d2 b e d) g λb _ e d=>d2 b e d;have w:=WmU (cp:=cp) (tp:=tp) u hlc hlt (by simp only;rw[zm O,hpos.1,zBY];rfl) (by simp only;rw[zm O,hpos.2,zBY];rfl) hc r j d1 d2 d3;exact hK y {Y with crow:=crow,trow:=trow,cps:=Y.cps++[cp],tps:=Y.tps++[tp]} (m.trans g) rfl rfl (by simp[hpos.1]) (by simp[hpos.2]) w
theorem chs {cs:List Value}{σ':Hp}(hT:∀k,Lcl (T k))(h:Sep (ACh A Y T cs) σ F)(e:Ext0 σ σ'):Sep (ACh A Y T cs) σ' F:=(Sep.loc (ACh.loc hT)).keep0 h e
theorem WoX {cs:List Value}(hT:∀k,Lcl (T k))(h:Sep (ACh A Y T cs) σ F):Sep (ACh A Y T cs) σ (Cut F σ):=(Sep.loc (ACh.loc hT)).cut h
theorem WhD (n room:Nat)(tb:List Cls)(i:Nat):({newP n room tb i with cen:=(newP n room tb i).cen++[[]],tra:=(newP n room tb i).tra++[⟨0,[]⟩]}:AR)=newP n room tb (i+1):=by
 unfold newP;simp only[←zGB]
theorem Wkj (n room:Nat)(tb:List Cls):newP n room tb tb.length=newA n room tb:=rfl
theorem Wo0 {i cp tp:Nat}{c:Cls}{ss:List SpA}{t:TrA}{ps:List (Nat×Nat)}{Gc Gt:Rg}{z:Nat}(hF:∀b,F b->z<=b/\b<σ.size)(hpos:Y.cps.length=i/\Y.tps.length=i)(hi:i<40)
 (h:Sep (ACh A Y (traT A Y) (hdV Y)) σ F) (hlc:A.cen.length=i) (hlt:A.tra.length=i) (hc:A.tb[i]?=some c) (hC:CeH σ Gc cp c ps ss) (hTf:TfH σ Gt tp c.batch A.room t) (d1:∀b,Gc b->¬F b/\z<=b/\b<σ.size) (d2:∀b,Gt b->¬F b/\z<=b/\b<σ.size) (d3:∀b,Gc b->¬Gt b) {J4:aP}
 (hK:∀σ' Y',Ext F σ σ'->Y'.p=Y.p->Y'.hs=Y.hs->Y'.cps.length=i+1->Y'.tps.length=i+1->Sep (ACh {A with cen:=A.cen++[ss],tra:=A.tra++[t]} Y' (traT {A with cen:=A.cen++[ss],tra:=A.tra++[t]} Y') (hdV Y')) σ' (λb=>z<=b)->J4 σ') :
 Held σ λS=>NilP (some ⟨Y.p,0,none⟩) λa80=>LdH S .s (a80.add 5) λ(t82:Sl)=>NilP (some ⟨Y.p,0,none⟩) λa87=>LdH S .s (a87.add 6) λ(t89:Sl)=>
  (Nw (.cells #[.pointer (some ⟨cp,0,none⟩)] 178 (0,0)) σ λn84 v21=>And (S v21) <|
   (App t82 1 8 178 [.pointer none] ⟨some n84,1,1⟩ v21 λt85 v22=>And (S v22)<|Nw (.cells #[.pointer (some ⟨tp,0,none⟩)] 180 (0,0)) v22 λn91 v23=>And (S v23)<|App t89 1 8 180 [.pointer none] ⟨some n91,1,1⟩ v23 λt92 v24=>And (S v24) <|
   NilP (some ⟨Y.p,0,none⟩) λa93=>St1 (a93.add 5) (.slice t85.a t85.len t85.cap) v24 λv25=>NilP (some ⟨Y.p,0,none⟩) λa95=>St1 (a95.add 6) (.slice t92.a t92.len t92.cap) v25 λv26=>J4 v26) ∧
   (Nw (.cells #[.pointer (some ⟨tp,0,none⟩)] 180 (0,0)) v21 λn911 v27=>And (S v27)<|App t82 1 8 178 [.pointer none] ⟨some n84,1,1⟩ v27 λt851 v28=>And (S v28)<|App t89 1 8 180 [.pointer none] ⟨some n911,1,1⟩ v28 λt921 v29=>And (S v29) <|
   NilP (some ⟨Y.p,0,none⟩) λa931=>St1 (a931.add 5) (.slice t851.a t851.len t851.cap) v29 λv30=>NilP (some ⟨Y.p,0,none⟩) λa951=>St1 (a951.add 6) (.slice t921.a t921.len t921.cap) v30 λv31=>J4 v31)) ∧
  (Nw (.cells #[.pointer (some ⟨tp,0,none⟩)] 180 (0,0)) σ λn912 v32=>And (S v32)<|Nw (.cells #[.pointer (some ⟨cp,0,none⟩)] 178 (0,0)) v32 λn841 v33=>And (S v33) <|
  App t82 1 8 178 [.pointer none] ⟨some n841,1,1⟩ v33 λt852 v34=>And (S v34)<|App t89 1 8 180 [.pointer none] ⟨some n912,1,1⟩ v34 λt922 v35=>And (S v35) <|
  NilP (some ⟨Y.p,0,none⟩) λa932=>St1 (a932.add 5) (.slice t852.a t852.len t852.cap) v35 λv36=>NilP (some ⟨Y.p,0,none⟩) λa952=>St1 (a952.add 6) (.slice t922.a t922.len t922.cap) v36 λv37=>J4 v37):=by
 have H:∀k,Lcl (traT A Y k):=λk=>traT.loc k;have Z:=CeH.loc (c:=c) (ps:=ps) (ss:=ss) (p:=cp);have R:=TfH.loc (p:=tp) (batch:=c.batch) (room:=A.room) (t:=t);refine⟨λm=>Blk m Y.p (hdV Y),(hdCh h).1,nilP ⟨Y.crow,λm hm=>by rw[add_lit,hm.cell];rfl,nilP ⟨Y.trow,λm hm=>by rw[add_lit,hm.cell];rfl,?_⟩⟩⟩;have D:∀(w:Hp) (F1:Rg) (b1 b2:Nat),Ext0 σ w->(∀b,F1 b->F b)->Sep (ACh A Y (traT A Y) (hdV Y)) w F1->Blk w b1 [.pointer (some ⟨cp,0,none⟩)]->Blk w b2 [.pointer (some ⟨tp,0,none⟩)]->σ.size<=b1->σ.size<=b2 →
  App Y.crow 1 8 178 [.pointer none] ⟨some ⟨b1,0,none⟩,1,1⟩ w λt85 v28=>And (Blk v28 Y.p (hdV Y))<|App Y.trow 1 8 180 [.pointer none] ⟨some ⟨b2,0,none⟩,1,1⟩ v28 λt92 v29=>And (Blk v29 Y.p (hdV Y)) <|
   NilP (some ⟨Y.p,0,none⟩) λa93=>St1 (a93.add 5) (.slice t85.a t85.len t85.cap) v29 λv30=>NilP (some ⟨Y.p,0,none⟩) λa95=>St1 (a95.add 6) (.slice t92.a t92.len t92.cap) v30 λv31=>J4 v31:=by
  intro w F1 b1 b2 ew hF1 hw hb1 hb2 hz1 hz2;have B:∀b,F1 b->z<=b/\b<σ.size:=λb d=>hF b (hF1 b d);have hsw:=ew.1;refine Wf1 H hw O O hb1 (λg=>by have:=B _ g;omega) λs1 v28 E aa=>?_;have V:=(hdCh aa).1;have M:Sep (ACh A {Y with crow:=s1,cps:=Y.cps++[cp]} (traT A {Y with crow:=s1,cps:=Y.cps++[cp]}) (hdV Y)) v28 (Grow F1 w):=aa;refine⟨V,?_⟩;have c28:Sep (ACh A {Y with crow:=s1,cps:=Y.cps++[cp]} (traT A {Y with crow:=s1,cps:=Y.cps++[cp]}) (hdV Y)) v28 (λb=>F1 b\/w.size<=b):=M;have Q:=E.blk hb2 λg=>by have:=B _ g;omega
  have hb2lt:=hb2.lt;refine Wfq c28 aC aC Q (λg=>by
   rcases g with g|g
   ·have:=B _ g;omega
   ·omega) λs2 v29 ag P=>?_
  refine⟨(hdCh P).1,?_⟩;have J:∀b,(F1 b\/w.size<=b)->F b\/σ.size<=b:=λb d=>by
   rcases d with d|d
   ·exact .inl (hF1 b d)
   ·exact .inr O
  have j:Ext F σ v29:=((Ext0.to ew).trans (E.sub hF1)).newT ag J;have ad:=Z.keep hC j λb _ d g=>(d1 b d).1 g;have ab:=R.keep hTf j λb _ d g=>(d2 b d).1 g;have hs28:=E.1;refine WfF (F:=Grow (λb=>F1 b\/w.size<=b) v28) hpos P hlc hlt hc ad ab (λb d g=>?_) (λb d g=>?_) d3 λw2 Y' e2 p1 p2 p3 p4 h2=>?_
  ·have:=d1 b d;rcases g with(g|g)|g
   ·exact this.1 (hF1 b g)
   ·omega
   ·omega
  ·have:=d2 b d;rcases g with(g|g)|g
   ·exact this.1 (hF1 b g)
   ·omega
   ·omega
  ·refine hK w2 Y' (j.newT e2 λb d=>?_) p1 p2 p3 p4 ((Sep.loc (ACh.loc (λk=>traT.loc k))).mono h2 λb _ d=>?_)
   ·rcases d with(d|d)|d
    ·exact .inl (hF1 b d)
    ·exact .inr O
    ·exact .inr O
   ·have hz0:z<=σ.size:=by have:=(d1 _ hC.fp);omega
    rcases d with(((d|d)|d)|d)|d
    ·exact(B b d).1
    ·omega
    ·omega
    ·exact(d1 b d).2.1
    ·exact(d2 b d).2.1
 have S0:∀{w:Hp},Ext0 σ w->Blk w Y.p (hdV Y):=λe=>e.blk (hdCh h).1 id;refine⟨nw (cs:=[.pointer (some ⟨cp,0,none⟩)]) λv21 z21 u N=>⟨S0 u,?_,?_⟩,nw (cs:=[.pointer (some ⟨tp,0,none⟩)]) λv32 z32 y b32=>⟨S0 y,nw (cs:=[.pointer (some ⟨cp,0,none⟩)]) λv33 z33 C b33=>⟨S0 (Ext.trans y C),?_⟩⟩⟩
 ·-- row,box,row
  have h21:=chs H h u;refine Wf1 H h21 O O N (λg=>by have:=hF _ g;omega) λs1 v22 X L=>⟨(hdCh L).1,?_⟩;have ae:Sep (ACh A {Y with crow:=s1,cps:=Y.cps++[cp]} (traT A {Y with crow:=s1,cps:=Y.cps++[cp]}) (hdV Y)) v22 (Grow F v21):=L;have ah:=WoX (λk=>traT.loc k) ae;refine nw (cs:=[.pointer (some ⟨tp,0,none⟩)]) λv23 z23 G b23=>?_;have ac:=chs (λk=>traT.loc k) ah G;refine⟨(hdCh ac).1,Wfq ac aC aC b23 (λg=>by have:=g.2;omega) λs2 v24 e24 U=>⟨(hdCh U).1,?_⟩⟩;have hs22:=X.1;have hs23:=G.1;have r:∀b,Cut (Grow F v21) v22 b->F b\/σ.size<=b:=λb d=>by
   rcases d.1 with h|h
   ·exact .inl h
   ·exact .inr O
  have j:Ext F σ v24:=((((Ext0.to u).trans X).trans0 G)).newT e24 r;have K:=Z.keep hC j λb _ d g=>(d1 b d).1 g;have W:=R.keep hTf j λb _ d g=>(d2 b d).1 g;refine WfF (F:=Grow (Cut (Grow F v21) v22) v23) hpos U hlc hlt hc K W (λb d g=>?_) (λb d g=>?_) d3 λw2 Y' e2 p1 p2 p3 p4 h2=>?_
  ·have:=d1 b d;rcases g with g|g
   ·rcases g.1 with g|g
    ·exact this.1 g
    ·omega
   ·omega
  ·have:=d2 b d;rcases g with g|g
   ·rcases g.1 with g|g
    ·exact this.1 g
    ·omega
   ·omega
  ·refine hK w2 Y' (j.newT e2 λb d=>?_) p1 p2 p3 p4 ((Sep.loc (ACh.loc (λk=>traT.loc k))).mono h2 λb _ d=>?_)
   ·rcases d with d|d
    ·exact r b d
    ·exact .inr O
   ·have hz0:z<=σ.size:=by have:=(d1 _ hC.fp);omega
    rcases d with((d|d)|d)|d
    ·rcases r b d with h|h
     ·exact(hF b h).1
     ·omega
    ·omega
    ·exact(d1 b d).2.1
    ·exact(d2 b d).2.1
 ·-- box,row,row
  refine nw (cs:=[.pointer (some ⟨tp,0,none⟩)]) λv27 z27 x af=>⟨S0 (Ext.trans u x),?_⟩;exact D v27 F σ.size v21.size (Ext.trans u x) (λb d=>d) (chs H (chs H h u) x) (x.blk N id) af (zC _) O
 ·exact D v33 F v32.size σ.size (Ext.trans y C) (λb d=>d) (chs H (chs H h y) C) b33 (C.blk b32 id) O (zC _)
theorem Wfo {P:Hp->Rg->Prop}(hl:Lcl P){a:Nat}(h:P σ λb=>a<=b):P σ λb=>a<=b/\b<σ.size:=hl.mono h λb d e=>⟨e,d⟩
theorem WoI {n room:Nat}{tb:List Cls}(h1:32<=n)(h2:n<=1024)(h3:n%16=0)(h4:room<=8)(h5:1<=tb.length)(h6:tb.length<=40)(h7:∀c∈tb,c.ok)(hc:Y.cps.length=tb.length)(ht:Y.tps.length=tb.length):LayOk (newA n room tb) Y:=
 ⟨hc,ht,by simp[newA],by simp[newA],h5,h6,h1,h2,h3,by simp[newA],h4,h7⟩
theorem WnL {s:Sl}{xs:List (Int×Int×Int)}(ha:Acts σ s xs)(hS:SpH3 σ H hs sp)(room:Int){R:Option Addr->Int->Hp->Prop}
 (h0:newE xs sp.st.length room≠0->∀σ',Ext0 σ σ'->R none (newE xs sp.st.length room) σ')
 (h1:newE xs sp.st.length room=0->∀σ' Y,Ext0 σ σ'->Y.hs=hs->AHY σ' (λb=>σ.size<=b) Y (newA sp.st.length room.toNat (xs.map ZV)) (traT (newA sp.st.length room.toNat (xs.map ZV)) Y)->R (some ⟨Y.p,0,none⟩) 0 σ') :
 Q1.c s (some ⟨hs,0,none⟩) room σ R:=by
 refine Q1.o ?_;unfold Q1.v;have hn2:sp.st.length<=1024:=by obtain⟨q,r,l,B,h⟩:=hS;exact h.n2
 refine Ho ha λv e=>?_;cases hv:Qi xs
 ·have e1:newE xs sp.st.length room=2:=by unfold newE;rw[hv];rfl
  have:=h0 (by rw[e1];decide) v e;rw[e1]at this;exact ifT rfl this
 have Z:newE xs sp.st.length room=if 32<=sp.st.length/\sp.st.length%16=0/\0<=room/\room<=8 then 0 else 1:=by unfold newE;rw[hv,zB rfl]
 refine ifF rfl (WcP (hS.keep0 e) ?_);have E:¬(32<=sp.st.length/\sp.st.length%16=0/\0<=room/\room<=8)->R none 1 v:=λhn=>by
  rw[zA hn]at Z;have:=h0 (by rw[Z];decide) v e;rw[Z]at this;exact this
 have tm:(((sp.st.length:Nat):Int).tmod 16)=((sp.st.length%16:Nat):Int):=by rw[Q8 O];simp
 refine JnB.intro (ifD (λc1=>JnB.intro (ifT rfl (JnB.intro (ifT rfl (ifT rfl (E O)))))) λc1=>nz aB ?_);rw[tm,Wmx];refine JnB.intro (iff_ (λc2=>JnB.intro (ifT rfl (ifT rfl (E (λh=>by have:=h.2.1;simp[this]at c2))))) λc2=>?_);have c2':sp.st.length%16=0:=by simpa using c2
 refine JnB.intro (ifD (λc3=>ifT rfl (E O)) λc3=>ifD (λc4=>E O) λc4=>?_);obtain⟨W,rfl⟩:=zk (show 0<=room by omega);rw[zB O]at Z;have h1:=h1 Z;simp only[iTn]at h1;have hva:=(Qr xs).1 hv;have Q:=YN ha e;have hn1:32<=sp.st.length:=by omega
 generalize sp.st.length=n at *;have hlen:s.len=(xs.map ZV).length:=by rw[za];exact ha.1
 have ab:∀{σ':Hp} {i:Nat} {c:Cls},Acts σ' s xs->(xs.map ZV)[i]?=some c->xs[i]?=some ((c.size:Int),(c.pages:Int),(c.batch:Int))/\c.ok:=λh K=>UL h hv K;have J:1<=(xs.map ZV).length/\(xs.map ZV).length<=40:=by rw[za];omega
 refine VW Q hv λtab v5 e5 htab=>Wl8 λV op e6 hop hP=>Wen λA z7 e7 hm=>?_;generalize htbd:xs.map ZV=tb at *;refine nw (cs:=[.slice tab.a tab.len tab.cap,.pointer (some ⟨hs,0,none⟩),.pointer none,.pointer none,.pointer (some ⟨op,0,none⟩),.slice none 0 0,.slice none 0 0,.map (some V.size)]) λv8 z8 e8 b8=>?_;refine Go.Bu.New_ok _ (λg=>absurd ⟨O,O⟩ g) λn' hn' _ _ v9 sb ms e9 hB hfp=>?_;have hnn:n=n':=by omega
 subst hnn;have b9:=e9.blk b8 id;refine nilP (b9.s1 aA λv10 o10 b10=>WmA O O c2' λM tp tq S htp htq hTk=>nilP ((S.blk b10 id).s1 aA λv12 L b12=>?_));have s5:=e5.1;have s6:=e6.1;have s9:=e9.1;have s10:=o10.1;have s11:=S.1;have s12:=L.1;have hb8:=b8.lt;have x9:Ext (· = A.size) v9 v12:=(o10.ext.trans (Ext0.to S)).trans L.ext;have x5:Ext (· = A.size) v5 v12:=(Ext0.to (Ext.trans (Ext.trans (Ext.trans e6 e7) e8) e9)).trans x9;have x6:Ext (· = A.size) V v12:=(Ext0.to (Ext.trans (Ext.trans e7 e8) e9)).trans x9;have x7:Ext (· = A.size) A v12:=(Ext0.to (Ext.trans e8 e9)).trans x9;have x11:Ext (· = A.size) M v12:=L.ext;have p1:=aH.keep (Wfo aH htab) x5 λb _ g d=>by omega
 have p2:=(PmH.loc (p:=op) (ow:=λ_=>0)).keep (Wfo PmH.loc hP) x6 λb _ g d=>by omega
 have p3:MapL v12 V.size .i64 bN []:=x7.mapL (hm _ _) O;have p5:Wec v8.size n Go.Bu.emptyS v12 (λb=>v8.size<=b/\b<v9.size):=(Wec.loc _ _ _).keep (Wfo (Wec.loc _ _ _) ⟨sb,ms,hB,hfp⟩) x9 λb _ g d=>by omega
 have p6:TrkR tp (List.replicate n 0) v12 (λb=>v10.size<=b/\b<M.size):=(TrkR.loc _ _).keep (Wfo (TrkR.loc _ _) ⟨tq,hTk,htp,htq⟩) x11 λb _ g d=>by omega
 let Y0:Lay:={p:=A.size,hs:=hs,fr:=v8.size,tr:=tp,op:=op,rn:=V.size,tab:=tab,crow:=⟨none,0,0⟩,trow:=⟨none,0,0⟩,cps:=[],tps:=[]}
 have b12':Blk v12 A.size (hdV Y0):=b12
 let Cf:=ACh (newP n W tb 0) Y0 (traT (newP n W tb 0) Y0) (hdV Y0)
 have u:∀i,Lcl (Cf i):=ACh.loc λk=>traT.loc k;have q0:Sep (Prt Cf S0) v12 λ_=>False:=Prt.one S0 .hd λi U=>by
  cases i<;>first|exact U.elim|exact RowR.nil _ _ _ _|exact trivial
 have q1:=Prt.put u q0 .tab (G:=λb=>v.size<=b/\b<v5.size) (λb g d=>d) p1;have q2:=Prt.put u q1 .own (G:=λb=>v5.size<=b/\b<V.size) (λb g d=>by
  rcases d with d|d
  ·exact d
  ·omega) p2
 have q3:=Prt.put u q2 .runs (G:=λb=>b=V.size) (λb g d=>by
  rcases d with(d|d)|d
  ·exact d
  ·omega
  ·omega) ⟨rfl,p3⟩
 have q4:=Prt.put u q3 .hd (G:=λb=>b=A.size) (λb g d=>by
  rcases d with((d|d)|d)|d
  ·exact d
  ·omega
  ·omega
  ·omega) ⟨rfl,b12'⟩
 have q5:=Prt.put u q4 .free (G:=λb=>v8.size<=b/\b<v9.size) (λb g d=>by
  rcases d with(((d|d)|d)|d)|d
  ·exact d
  ·omega
  ·omega
  ·omega
  ·omega) p5
 have q6:=Prt.put u q5 .trk (G:=λb=>v10.size<=b/\b<M.size) (λb g d=>by
  rcases d with((((d|d)|d)|d)|d)|d
  ·exact d
  ·omega
  ·omega
  ·omega
  ·omega
  ·omega) p6
 have q7:Sep Cf v12 λb=>v.size<=b:=by
  refine(Sep.loc u).mono (Prt.all q6 λi=>?_) λb _ d=>?_
  ·cases i<;>simp[S0]
  ·rcases d with(((((d|d)|d)|d)|d)|d)|d
   ·exact d.elim
   ·omega
   ·omega
   ·omega
   ·omega
   ·omega
   ·omega
 have e12:Ext0 v v12:=Ext.fresh e5 x5 λi U=>by omega
 have szv:=e.1;refine ZT (a:=bN) (λ(t:Int) w=>∃(i:Nat) (Y:Lay),t=(i:Int)/\i<=tb.length/\Y.p=A.size/\Y.hs=hs/\Y.cps.length=i/\Y.tps.length=i/\Ext0 v w/\Sep (ACh (newP n W tb i) Y (traT (newP n W tb i) Y) (hdV Y)) w (λb=>v.size<=b)) (λt _=>tb.length-t.toNat)
  ⟨0,Y0,rfl,O,rfl,rfl,rfl,rfl,e12,q7⟩ ?_
 rintro t w ⟨i,Y,rfl,U,X,hYh,hYc,hYt,ew,y⟩;refine ifD (λhlt=>?_) λhge=>?_
 ·have hi':i<tb.length:=by omega
  have K:tb[i]?=some tb[i]:=gGe hi';generalize tb[i]=c at K;have haw:=YN Q ew;obtain⟨hxi,hok⟩:=ab haw K;refine U8 haw hxi ?_;refine nw (cs:=[.int .i64 0,.int .i64 0,.int .i64 0]) λv14 hz14 e14 b14=>b14.s1 aA λv15 o15 b15=>b15.s1 aA λv16 o16 b16=>b16.s1 aA λv17 o17 b17=>?_;have N:Ext0 w v17:=Ext.fresh (Ext.fresh (Ext.fresh e14 o15.ext λi U=>O) o16.ext λi U=>O) o17.ext λi U=>by omega
  have x:Blk v17 w.size [.int .i64 (c.size:Int),.int .i64 (c.pages:Int),.int .i64 (c.batch:Int)]:=b17;refine x.rI rfl (x.rI rfl (x.rI rfl (WnO hok λv18 cp C hcp1 hcp2 hCe=>?_)));have b18:=C.blk x id;obtain⟨_,_,_,_,_,_,aa,hbt2⟩:=id hok;refine b18.rI rfl (Wl4 aa hbt2 O λv19 tp2 D htp1 htp2 hTf=>Jn.intro ?_);have s14:=N.1;have s18:=C.1;have s19:=D.1;have sw:=ew.1;have hT:∀k,Lcl (traT (newP n W tb i) Y k):=λk=>traT.loc k;have h19:=chs hT (chs hT (chs hT (WoX hT y) N) C) D;have P:=hCe.keep0 D;rw[←X];refine Wo0 (F:=Cut (λb=>v.size<=b) w) (z:=v.size) (ss:=[]) (t:=⟨0,[]⟩) (λb g=>⟨g.1,by have:=g.2;omega⟩) ⟨hYc,hYt⟩ O h19 (by simp[newP]) (by simp[newP]) K P hTf (λb g=>?_) (λb g=>?_) (λb g hb2=>O) λw2 Y' e2 y1 y2 y3 y4 h2=>?_
  ·subst g;exact⟨λd=>by have:=d.2;omega,O,O⟩
  ·subst g;exact⟨λd=>by have:=d.2;omega,O,O⟩
  ·rw[WhD]at h2;exact arN (m:=i+1) O O ⟨⟨i+1,Y',rfl,O,y1,y2.trans hYh,y3,y4,Ext.fresh (Ext.trans (Ext.trans (Ext.trans ew N) C) D) e2 λb g=>g.1,h2⟩,O⟩
 ·have:i=tb.length:=by omega
  subst this;rw[Wkj,Wod]at y;have hl:LayOk (newA n W tb) Y:=WoI hn1 hn2 c2' O J.1 J.2 (λc K=>by
   obtain⟨j,hj⟩:=zN K;exact(ab Q hj).2) hYc hYt
  have:=h1 w Y (Ext.trans e ew) hYh ⟨hl,λk=>traT.loc k,(Sep.loc (AC.loc λk=>traT.loc k)).mono y λb _ g=>zI szv g⟩;rw[X]at this;exact this
end Go.Ar
namespace Go.Vc
open Go
variable {σ:Hp}{F:Rg}{s:Sl}{sz:Nat}{xs:List Value}
def RowO (s:Sl)(sz:Nat)(xs:List Value):Hp->Rg->Prop:=λh F=>xs.length=s.len*sz/\(s.len=0/\s.cap=0\/∃b o cs,F b/\s.a=some ⟨b,o,none⟩/\Blk h b cs/\s.len<=s.cap/\cs.length=o+s.cap*sz/\(cs.drop o).take xs.length=xs)
theorem RowO.loc (s:Sl)(sz:Nat)(xs:List Value):Lcl (RowO s sz xs):=λσ g F G h d a=>by
 refine⟨h.1,h.2.imp id ?_⟩;rintro⟨b,o,cs,hq,ha,⟨e,he⟩,r⟩;have:=a b (Blk.lt ⟨e,he⟩) hq;exact⟨b,o,cs,this.1,ha,⟨e,this.2.trans he⟩,r⟩
theorem RowO.nil (h:Hp)(F:Rg)(sz:Nat)(a:Option Addr):RowO ⟨a,0,0⟩ sz [] h F:=⟨by simp,.inl ⟨rfl,rfl⟩⟩
theorem RowR.o (h:RowR s sz xs σ F):RowO s sz xs σ F:=⟨h.1,h.2.imp id λ⟨b,j,e,m,g,a,d,i⟩=>⟨b,0,j,e,m,g,a,O,by simpa using i⟩⟩
theorem RowO.slR (h:RowO s sz xs σ F):SlR s sz xs σ F:=by
 refine⟨h.1,?_⟩;rcases h.2 with⟨hl,_⟩|⟨b,o,cs,hq,ha,hb,_,_,ht⟩
 ·left;have:=h.1;rw[hl]at this;simpa using this
 ·refine .inr ⟨b,o,cs,hq,ha,hb.q,λj a=>?_⟩;rw[←ht,zY,zn,zB a]
theorem RowO.cap (h:RowO s sz xs σ F):s.len<=s.cap:=by
 rcases h.2 with⟨q1,q2⟩|⟨_,_,_,_,_,_,q,_⟩
 ·omega
 ·exact q
theorem RowO.app {x:Sl}{bytes e:Nat}{zs ys:List Value}{K:Sl->Hp->Prop}(ho:RowO s sz xs σ F)(hz:zs.length=sz)
 (hy:ys.length=x.len*sz) (hr:Rd σ x.a ys) (h1:∀v∈ys,one1 v=true) (hb:(s.len+x.len)*bytes<=2^46) (hc:s.len+x.len<=2^62)
 (hx:0<x.len) (hK:∀s' h',s'.len=s.len+x.len->Ext F σ h'->RowO s' sz (xs++ys) h' (Grow F σ)->K s' h'):App s sz bytes e zs x σ K:=by
 refine⟨xs,ys,ho.1,hy,ho.slR.rd,hr,h1,hb,hc,λg=>?_,λr c p=>?_⟩
 ·rcases ho.2 with⟨hl,hcap⟩|⟨b,o,cs,hQ,ha,hk,hle,hcl,ht⟩
  ·omega
  ·rw[ha];simp only;rw[add_lit];have u:(s.len+x.len)*sz<=s.cap*sz:=zAK _ g;rw[zj]at u;have d:=ho.1;refine VU hk O λh' j m=>hK _ h' rfl (Ext.of_only j hQ) ⟨?_,.inr ⟨b,o,_,.inl hQ,rfl,m,g,?_,?_⟩⟩
   ·simp[d,hy,zj]
   ·simp;omega
   ·rw[zK,d,zq];have w:(cs.take (o+s.len*sz)++ys++cs.drop (o+s.len*sz+ys.length)).drop o=(cs.drop o).take (s.len*sz)++(ys++cs.drop (o+s.len*sz+ys.length)):=by
     rw[zAA,List.drop_append_of_le_length (by rw[zO];omega),List.drop_take]
     congr 2;omega
    have i:(cs.drop o).take (s.len*sz)=xs:=by rw[←d];exact ht
    rw[w,i,←zAA,zBX aE,zAZ aE]
 ·refine hK _ _ rfl (Ext.push _ _ _) ⟨by simp[ho.1,hy,zj],.inr ⟨σ.size,0,xs++ys++(List.replicate (c-(s.len+x.len)) zs).flatten,.inr (zC _),rfl,⟨e,by simp⟩,p,?_,?_⟩⟩
  ·simp only[zK,zEB,zDH,zEC,ho.1,hy,hz,←zj];rw[zG];congr 1;omega
  ·rw[List.drop_zero,zBX aA,zAZ aA]
theorem RowO.app0 {x:Sl}{bytes e:Nat}{zs:List Value}{K:Sl->Hp->Prop}(ho:RowO s sz xs σ F)(hx:x.len=0)(hb:s.len*bytes<=2^46)(hc:s.len<=2^62)(hK:RowO ⟨s.a,s.len,s.cap⟩ sz xs σ F->K ⟨s.a,s.len,s.cap⟩ σ):App s sz bytes e zs x σ K:=by
 have d:=ho.cap;refine⟨xs,[],ho.1,by simp[hx],ho.slR.rd,by cases x.a<;>simp[Rd],by simp,by rw[hx];exact hb,O,λg=>?_,λb=>absurd O b⟩
 rw[hx];have:=hK ho;cases ha:s.a<;>(rw[ha]at this;exact this)
theorem RowO.from (h:RowO s sz xs σ F){lo:Nat}(h1:lo<=s.len):RowO ⟨if s.cap=lo then s.a else s.a.map (·.add (lo*sz)),s.len-lo,s.cap-lo⟩ sz (xs.drop (lo*sz)) σ F:=by
 have d:=h.1;refine⟨by rw[zr,d,Nat.sub_mul],?_⟩;rcases h.2 with⟨q1,q2⟩|⟨b,o,cs,hq,ha,hb,hle,hcl,ht⟩
 ·left;simp only;omega
 ·by_cases hm:s.cap=lo
  ·left;simp only;omega
  ·refine .inr ⟨b,o+lo*sz,cs,hq,by simp only[zA hm,ha,zf,add_lit],hb,by simp only;omega,?_,?_⟩
   ·have:lo*sz<=s.cap*sz:=zAK _ O;rw[hcl,Nat.sub_mul];omega
   ·rw[zr]
    conv=>rhs;rw[←ht]
    rw[List.drop_take,List.drop_drop]
end Go.Vc
namespace Go.Ar
open Go Go.Vc Go.Proofs
variable {σ:Hp}{F G:Rg}{Y:LayC}{tb:List Cls}{bud:Nat}{ls:List Li}{b k:Nat}{l:Li}{c:Cls}
theorem Wnm {s:Sl}{xs:List (Int×Int×Int)}(ha:Acts σ s xs)(budget:Int){R:Option Addr->Int->Hp->Prop}(h0:Qi xs=false->∀σ',Ext0 σ σ'->R none 2 σ')
 (h1:Qi xs=true->¬(0<=budget/\budget<=65536)->∀σ',Ext0 σ σ'->R none 1 σ')
 (h2:Qi xs=true->0<=budget->budget<=65536->∀σ' Y,Ext0 σ σ'->CaY σ' (λq=>σ.size<=q) Y (xs.map ZV) budget.toNat (List.replicate (xs.map ZV).length liN)->R (some ⟨Y.p,0,none⟩) 0 σ') :
 Q0.c s budget σ R:=by
 refine Q0.o ?_;unfold Q0.v;refine Ho ha λv e=>?_;cases hv:Qi xs
 ·exact ifT rfl (h0 hv v e)
 refine ifF rfl (JnB.intro (ifD (λD=>ifT rfl (h1 hv O v e)) λD=>ifD (λC=>h1 hv O v e) λC=>?_));have g:=YN ha e;have E:=(Qr xs).1 hv;refine VW g hv λtab b w j=>Wen λd J u A=>nw (cs:=[.slice tab.a tab.len tab.cap,.int .i64 budget,.map (some b.size)]) λv3 H m y=>?_;have s1:=w.1;have s0:=e.1;refine h2 hv O O v3 ⟨d.size,b.size,tab,[]⟩ (((e.trans w).trans u).trans m) ⟨by rw[za];omega,λc z=>?_,by simp,by simp,?_⟩
 ·obtain⟨i,x⟩:=zN z;exact(UL g hv x).2
 ·refine⟨λq=>if q=d.size then .hd else if q=b.size then .mp else .tab,λi=>?_⟩
  cases i with
  | hd=>
   refine⟨⟨by show σ.size<=d.size;omega,by simp⟩,?_⟩;have:((budget.toNat:Nat):Int)=budget:=by omega
   simp only[hdC,this];exact y
  | mp=>
   refine⟨⟨by show σ.size<=b.size;omega,?_⟩,m.mapL (A .i64 .p) id⟩;show(if b.size=d.size then LbC.hd else if b.size=b.size then LbC.mp else LbC.tab)=.mp
   rw[zA O,zB rfl]
  | tab=>
   have F:=aH.keep0 (aH.keep0 (aH.mono j (G:=λq=>v.size<=q/\q<b.size) λq r B=>⟨B,r⟩) u) m;refine aH.mono F λq _ r=>⟨O,?_⟩;show(if q=d.size then LbC.hd else if q=b.size then LbC.mp else LbC.tab)=.tab
   rw[zA O,zA O]
  | li k=>
   simp only[CC,LiK,lkp,List.find?_nil,Option.map_none];cases hk:(List.replicate (xs.map ZV).length liN)[k]? with
   | none=>trivial
   | some l=>simp only[zAV]at hk;split at hk<;>simp_all
def sumK (f:Nat->Nat)(l:List (Int×Option Addr)):Nat:=(l.map λx=>f x.1.toNat).sum
theorem Wfb (f:Nat->Nat):∀{l:List (Int×Option Addr)} {n:Int} {x:Option Addr},(l.map (·.1)).Nodup->(n,x)∈l->sumK f l=f n.toNat+sumK f (l.filter λy=>!(y.1==n))
 | [],_,_,_,h=>by simp at h
 | y::l,n,x,hn,h=>by
  simp only[zJ,zo]at hn;rcases zQ.1 h with h1|h1
  ·subst h1;have:l.filter (λy=>!(y.1==n))=l:=by
    rw[zBL];intro z hz;have:z.1≠n:=λe=>hn.1 (zD.2 ⟨z,hz,e⟩);simpa using this
   rw[zDL aA,this];simp[sumK]
  ·have a:y.1≠n:=λe=>hn.1 (zD.2 ⟨_,h1,e.symm⟩);rw[zDM (by simpa using a)];have:=Wfb f hn.2 h1;simp only[sumK,zJ,zp]at *;omega
theorem Wmv (n a v:Nat):((List.range n).map λj=>if j=a then v else 0).sum=if a<n then v else 0:=by
 induction n with
 | zero=>simp
 | succ n ih=>
  rw[zAC,zAD,zDK,ih];by_cases h:a=n
  ·subst h;simp
  ·by_cases h2:a<n
   ·rw[zB h2,zB O];simp[Ne.symm h]
   ·rw[zA h2,zA O];simp[Ne.symm h]
theorem WmY (l:List Nat)(f g:Nat->Nat):(l.map λj=>f j+g j).sum=(l.map f).sum+(l.map g).sum:=by
 induction l with
 | nil=>rfl
 | cons x l ih=>simp only[zJ,zp,ih];omega
theorem WfG (f:Nat->Nat)(n:Nat):∀(ps:List (Nat×Nat)),(ps.map (·.1)).Nodup->(∀x∈ps,x.1<n)->(ps.map λx=>f x.1).sum=((List.range n).map λj=>if j∈ps.map (·.1)then f j else 0).sum
 | [],_,_=>by
  have:((List.range n).map λj=>if j∈([]:List (Nat×Nat)).map (·.1)then f j else 0)=(List.range n).map λ_=>0:=by simp
  rw[this]
  induction n with
  | zero=>rfl
  | succ n a=>rw[zAC,zAD,zDK];simp at *;exact a
 | x::ps,hn,hl=>by
  simp only[zJ,zo]at hn;have a:=WfG f n ps hn.2 λy b=>hl y (by simp[b]);rw[zJ,zp,a];have e:((List.range n).map λj=>if j∈(x::ps).map (·.1)then f j else 0)=(List.range n).map λj=>(if j=x.1 then f x.1 else 0)+(if j∈ps.map (·.1)then f j else 0):=by
   apply zAH;intro j _;by_cases hj:j=x.1
   ·subst hj;rw[zB aA,zB rfl,zA hn.1];rfl
   ·rw[zA hj,zG];by_cases hm:j∈ps.map (·.1)
    ·rw[zB hm,zB (by simp only[zJ,zQ];exact .inr hm)]
    ·rw[zA hm,zA (by simp only[zJ,zQ,not_or];exact⟨hj,hm⟩)]
  rw[e,WmY,Wmv,zB (hl x aA)]
def byK (tb:List Cls)(ls:List Li)(k:Nat):Nat:=match tb[k]?,ls[k]? with
 | some c,some l=>c.size*l.os.length
 | _,_=>0
theorem Wa2:∀(tb:List Cls) (ls:List Li),ls.length=tb.length->Qt tb ls=((List.range tb.length).map (byK tb ls)).sum
 | [],[],_=>rfl
 | c::tb,l::ls,h=>by
  have ih:=Wa2 tb ls (by simpa using h);simp only[Qt]at ih;simp only[Qt,zGU,zJ,zp,zP,ih,zFR,zt];rfl
 | [],_::_,h=>by simp at h
 | _::_,[],h=>by simp at h
theorem CaY.nil (h:CaY σ F Y tb bud ls)(hf:lkp Y.ps k=none)(hl:ls[k]?=some l):l=liN:=by
 obtain⟨G,_,a⟩:=h.sep.get (.li k);simp only[CC,LiK,hf,hl]at a;exact a
theorem CaY.keysN (h:CaY σ F Y tb bud ls):(Y.ps.map (·.1)).Nodup:=by
 have:=h.map.nodup;have e:(ptI Y.ps).map (·.1)=(Y.ps.map (·.1)).map λ(n:Nat)=>(n:Int):=by simp[ptI]
 rw[e]at this;exact List.Pairwise.of_map (λ(n:Nat)=>(n:Int)) (λa b d e=>d (by rw[e])) this
theorem CaY.bytes (h:CaY σ F Y tb bud ls):sumK (byK tb ls) (ptI Y.ps)=Qt tb ls:=by
 have i:sumK (byK tb ls) (ptI Y.ps)=(Y.ps.map λx=>byK tb ls x.1).sum:=by simp[sumK,ptI,Function.comp_def]
 rw[i,WfG _ tb.length _ h.keysN h.keys,Wa2 _ _ h.len]
 congr 1
 apply zAH;intro j hj;have a:=zV.1 hj;by_cases hm:j∈Y.ps.map (·.1)
 ·rw[zB hm]
 ·rw[zA hm];have d:lkp Y.ps j=none:=by
   unfold lkp;simp only[zCO,zBN,zX];exact λx g e=>hm (zD.2 ⟨x,g,e⟩)
  have b:ls[j]?=some (ls[j]'(by rw[h.len];exact a)):=gGe _;have:=h.nil d b;unfold byK;rw[gGe a,b,this];rfl
theorem WcY:∀(tb:List Cls) (ls:List Li),(∀c∈tb,c.ok)->(∀l∈ls,LiOk l)->Qt tb ls<=tb.length*131072
 | [],_,_,_=>by simp[Qt]
 | _::_,[],_,_=>by simp[Qt]
 | c::tb,l::ls,h1,h2=>by
  have ih:=WcY tb ls (λc a=>h1 c (by simp[a])) (λl b=>h2 l (by simp[b]));simp only[Qt]at ih;simp only[Qt,zGU,zJ,zp,zP];have a:=h1 c aA;unfold Cls.ok at a;have d:=(h2 l aA).many;have e:c.size*l.os.length<=512*256:=zAF O d;omega
theorem WdD (h:CaY σ F Y tb bud ls)(hok:∀l∈ls,LiOk l):Qt tb ls<=5242880:=by
 have a:=WcY tb ls h.ok hok;have b:=h.tb1;omega
theorem CaY.lok (h:CaY σ F Y tb bud ls):∀l∈ls,LiOk l:=by
 intro l hl;obtain⟨k,a⟩:=zN hl;cases hf:lkp Y.ps k with
 | none=>rw[h.nil hf a];exact LiOk.nil
 | some b=>
  obtain⟨G,_,d,_⟩:=h.liS hf a;exact d.2.1
theorem WcN (h:CaY σ F Y tb bud ls){R:aN}(hR:∀σ',Ext0 σ σ'->R ((Qt tb ls:Nat):Int) σ'):Xw.c (aW Y.p) σ R:=by
 refine Xw.o ?_;unfold Xw.v;have aa:=WdD h h.lok;have Z:=h.bytes;refine Hv h (ifF rfl (nilP (h.hd.rM rfl ?_)));refine rng1 (a:=bN) h.map (λg (z:Int) v=>∃n:Nat,z=(n:Int)/\n+sumK (byK tb ls) g=Qt tb ls/\(∀e∈g,e∈ptI Y.ps)/\(g.map (·.1)).Nodup/\Ext0 σ v) ?_ ?_ ?_
 ·intro v hz e;exact⟨0,rfl,by rw[Z];omega,λe he=>he,h.map.nodup,e⟩
 ·rintro z v ⟨n,rfl,H,_,_,e⟩;simp only[sumK,zCC,List.sum_nil,zq]at H;rw[H];exact hR v e
 ·rintro g n x z v v' J ⟨m,rfl,H,r,C,e⟩ X ho hlt hJ;have V:Ext0 σ v':=e.only ho (.inr (zC _));have M:=h.keep0 V;have j:=r _ X;simp only[ptI,zD,Prod.mk.injEq]at j;obtain⟨⟨k,b⟩,A,w,B⟩:=j;simp only at w B;subst w;subst B;have E:=h.keys _ A;simp only at E;have N:tb[k]?=some tb[k]:=gGe E;have P:ls[k]?=some (ls[k]'(by rw[h.len];exact E)):=gGe _;generalize tb[k]=c at N;generalize (ls[k]'(by rw[h.len];exact E))=l at P;have S:lkp Y.ps k=some b:=WlS h.map.nodup A;obtain⟨G,hG,hL,_⟩:=M.liS S P;obtain⟨_,hok,s,L,K,W⟩:=hL;have Q:s.len=l.os.length:=by have:=K.1;simp[Wv]at this;omega
  have hb:byK tb ls k=c.size*l.os.length:=by unfold byK;rw[N,P]
  have u:=Wfb (byK tb ls) C X;simp only[iTn]at u;refine nilP (M.hd.rS rfl (Wbc M.tabS N (d:=0) O ?_));simp only[zT];refine nilP (L.rS rfl ?_);have D:m+c.size*l.os.length+sumK (byK tb ls) (List.filter (λy=>!(y.1==(k:Int))) g)=Qt tb ls:=by
   have U:=u;rw[hb]at U;rw[←H,U,zCF]
  refine arN (m:=c.size*l.os.length) (by simp only[Q];simp) O (arN (m:=m+c.size*l.os.length) O O (hJ _ v' rfl rfl ⟨_,rfl,D,λy hy=>r y (zH.1 hy).1,C.sublist (List.filter_sublist.map _),V⟩))
theorem WmN (h:CaY σ F Y tb bud ls){R:aO}(hR:∀σ',Ext0 σ σ'->R (decide (bud<Qt tb ls)) σ'):Yf.c (aW Y.p) σ R:=by
 refine Yf.o ?_;unfold Yf.v;have e:decide (((Qt tb ls:Nat):Int)>(bud:Int))=decide (bud<Qt tb ls):=by rw[decide_eq_decide];omega
 refine Jn.intro (Hv h (ifT rfl (nilP ⟨WcN h λσ' a=>(a.blk h.hd id).rI rfl ?_,h.hd.rI rfl (WcN h λσ' a=>?_)⟩)))
 ·rw[e];exact hR σ' a
 ·rw[e];exact hR σ' a
def WnM (f:Cls->Li->List Int×Li)(fn:Nat):Prop:=∀{σ:Hp} {G:Rg} {b:Nat} {l:Li} {c:Cls},LiR b l σ G->c.ok->∀{R:Sl->Hp->Prop},
 (∀s z σ',Ext (· = b) σ σ'->σ.size<=z->RowR s 1 (Wv (f c l).1) σ' (λq=>σ.size<=q/\q<z)->LiR b (f c l).2 σ' (λq=>q=b\/z<=q)->R s σ') →
 VR Tryz.prog ⟨fn,#[],#[]⟩ [.pointer (some ⟨b,0,none⟩),.int .i64 (c.batch:Int)] [.one .s] σ R
theorem Whi:WnM ZX 223:=by
 intro σ G b l c h hc R hR;refine Gh (all := #[.pointer (some ⟨b,0,none⟩),.int .i64 (c.batch:Int)]) (by kernel_rfl) aA ?_;refine YG.o ?_;unfold YG.v;have i:=h;obtain⟨_,j,s,e,d,g⟩:=h;have a:s.len=l.os.length:=by have:=d.1;simp[Wv]at this;omega
 refine nilP (e.rS rfl ?_);simp only[a];exact Gf i (zC _) hR
theorem Wlc:WnM KK 221:=by
 intro σ G b l c h hc R hR;refine Gh (all := #[.pointer (some ⟨b,0,none⟩),.int .i64 (c.batch:Int)]) (by kernel_rfl) aA ?_;refine XA.o ?_;unfold XA.v;have Q:=h;obtain⟨_,g,s,u,M,L⟩:=h;have o1:=g.low;have o2:=g.many;have o3:=g.lim;have w:=WfN hc g;unfold Cls.ok at hc;refine nilP (u.rI rfl (arN (m:=l.low+1) O O (nz aB (arN (m:=(l.low+1)/2) (by rw[YL O];omega) O ?_))));refine Gf Q O λout z v e U N p=>?_;have K:=p;obtain⟨_,S,s1,d,r,F⟩:=p;have x:s1.len=(oldL ((l.low+1)/2) l).2.os.length:=by have:=r.1;simp[Wv]at this;omega
 refine Jn.intro ?_;have rest:∀(i:Hp) (lim:Nat),Ext (· = b) v i->lim=(if l.lim>c.batch then max (l.lim-c.batch) c.batch else l.lim)->Blk i b (liV s1 {(oldL ((l.low+1)/2) l).2 with lim:=lim}) →
  NilP (some ⟨b,0,none⟩) λD=>LdS (D.add 0) i λB=>NilP (some ⟨b,0,none⟩) λE=>St1 (E.add 2) (.int .i64 ((B.len:Nat):Int)) i λv2=>R out v2:=by
  intro i lim e1 hlim a;refine nilP (a.rS rfl (nilP (a.s1 (by simp[liV]) λv2 o2 y=>?_)));have A:=e1.trans o2.ext;have P:=d.lt;refine hR out z v2 (e.trans A) U (aI.keep N A λq _ H J=>?_) ?_
  ·have:=u.lt;omega
  ·refine⟨.inl rfl,w,s1,?_,aH.keep r A λq _ H J=>H.2 J,F⟩;simp only[x]at y;subst hlim;exact y
 refine nilP (d.rI rfl ?_);refine ifD (λC=>?_) λC=>?_
 ·have j:l.lim>c.batch:=by simp only[oldL]at C;omega
  refine nilP (d.rI rfl (arN (m:=l.lim-c.batch) (by simp only[oldL];omega) O (nilP (d.s1 (by simp[liV]) λi o1 a=>rest i (max (l.lim-c.batch) c.batch) o1.ext (by rw[zB j]) ?_))));have:(if(c.batch:Int)>((l.lim-c.batch:Nat):Int)then(c.batch:Int)else((l.lim-c.batch:Nat):Int))=((max (l.lim-c.batch) c.batch:Nat):Int):=by split<;>omega
  rw[this]at a;exact a
 ·have j:¬l.lim>c.batch:=by simp only[oldL]at C;omega
  exact rest v l.lim (Ext.refl _ _) (by rw[zA j]) d
def btV (x:Nat×Sl):List Value:=[.int .i64 (x.1:Int),.slice x.2.a x.2.len x.2.cap]
def btsV (l:List (Nat×Sl)):List Value:=l.flatMap btV
theorem Ky (l:List (Nat×Sl)):(btsV l).length=l.length*2:=by
 induction l with
 | nil=>rfl
 | cons x l ih=>
  have e:btsV (x::l)=btV x++btsV l:=rfl;have a:(btV x).length=2:=rfl;rw[e,zK,ih,a,zP];omega
theorem U5 (a b:List (Nat×Sl)):btsV (a++b)=btsV a++btsV b:=by simp[btsV]
theorem Hu {l:List (Nat×Sl)}:∀v∈btsV l,one1 v=true:=by
 intro v hv;obtain⟨p,_,a⟩:=zCP.1 hv;simp only[btV,zQ,List.not_mem_nil,or_false]at a;rcases a with rfl|rfl<;>rfl
theorem Wk2 {l:List (Nat×Sl)}{i:Nat}{p:Nat×Sl}(h:l[i]?=some p){d:Nat}(hd:d<2):(btsV l)[2*i+d]?=(btV p)[d]? := by
 induction l generalizing i with
 | nil=>simp at h
 | cons x l ih=>
  have e:btsV (x::l)=btV x++btsV l:=rfl;have a:(btV x).length=2:=rfl;rw[e];cases i with
  | zero=>
   simp at h;subst h;rw[zd O];congr 1;omega
  | succ i=>
   rw[zm O,a,show 2*(i+1)+d-2=2*i+d by omega];exact ih (by simpa using h)
def BtO (ps:List (Nat×Sl))(bs:List Bt)(σ:Hp)(D:Rg):Prop:=ps.length=bs.length/\∀(i:Nat) p x,ps[i]?=some p->bs[i]?=some x->p.1=x.1/\SlR p.2 1 (Wv x.2) σ D/\p.2.len<=p.2.cap
theorem BtO.loc (ps:List (Nat×Sl))(bs:List Bt):Lcl (BtO ps bs):=λσ g F G h d e=>⟨h.1,λi p x b a=>⟨(h.2 i p x b a).1,SlR.loc _ _ _ _ _ _ _ (h.2 i p x b a).2.1 d e,(h.2 i p x b a).2.2⟩⟩
def Djp (ps:List (Nat×Sl)):Prop:=ps.Pairwise λp q=>∀a a',p.2.a=some a->q.2.a=some a'->a.block≠a'.block
theorem Djp.snoc {ps:List (Nat×Sl)}{bs:List Bt}{σ v:Hp}{D X:Rg}{s:Sl}{xs:List Int}(h:Djp ps)(hB:BtO ps bs σ D)(hne:∀x∈bs,x.2≠[])(hs:SlR s 1 (Wv xs) v X)(hx:xs≠[])(hd:∀b,b<σ.size->D b->¬X b)(k:Nat):Djp (ps++[(k,s)]):=by
 refine zBT.2 ⟨h,List.pairwise_singleton _ _,λp z q u=>?_⟩;rw[zW]at u;subst u;intro a a' h1 h2 e;obtain⟨i,r⟩:=zN z;have d:=(gSi.1 r).1;have j:bs[i]?=some (bs[i]'(by rw[←hB.1];exact d)):=gGe _;generalize (bs[i]'(by rw[←hB.1];exact d))=y at j;obtain⟨_,g,_⟩:=hB.2 i p y r j;have m:=g.blk (by simpa[Wv]using hne y (zE j)) ⟨a,h1,rfl⟩;have w:=hs.blk (by simpa[Wv]using hx) ⟨a',h2,rfl⟩;rw[e]at m;exact hd _ m.2 m.1 w.1
def BtR (s:Sl)(bs:List Bt):Hp->Rg->Prop:=λσ F=>∃(ps:List (Nat×Sl)) (D:Rg),RowO s 2 (btsV ps) σ (λq=>F q/\¬D q)/\BtO ps bs σ D/\(∀q,D q->F q)/\Djp ps/\∀x∈bs,x.2≠[]
theorem BtR.loc (s:Sl)(bs:List Bt):Lcl (BtR s bs):=λσ r F G ⟨p,D,j,m,g,i⟩ e b=>
 ⟨p,λq=>D q/\q<σ.size,RowO.loc _ _ _ _ _ _ _ j e λq a d=>⟨⟨(b q a d.1).1,λhd=>d.2 hd.1⟩,(b q a d.1).2⟩,BtO.loc _ _ _ _ _ _ m e λq a hd=>⟨⟨hd,a⟩,(b q a (g q hd)).2⟩,λq a=>(b q a.2 (g q a.1)).1,i⟩
theorem BtR.nil (σ:Hp)(F:Rg)(a:Option Addr):BtR ⟨a,0,0⟩ [] σ F:=⟨[],λ_=>False,RowO.nil _ _ _ _,⟨rfl,λi p x h=>by simp at h⟩,λq h=>h.elim,List.Pairwise.nil,by simp⟩
theorem BtR.len {s:Sl}{bs:List Bt}(h:BtR s bs σ F):s.len=bs.length:=by
 obtain⟨d,D,a,b,_⟩:=h;have:=a.1;rw[Ky]at this;have:=b.1;omega
theorem BtR.cap {s:Sl}{bs:List Bt}(h:BtR s bs σ F):s.len<=s.cap:=by
 obtain⟨b,D,a,_⟩:=h;exact a.cap
def HP:Prop:=∀{σ:Hp} {F:Rg} {s:Sl} {xs:List (Nat×Sl)},RowR s 2 (btsV xs) σ F->(∀x∈xs,x.1<64)->xs.length<=1000->∀{R:aP},
 (∀xs' σ',xs'.Perm xs->xs'.Pairwise (λa b=>a.1<=b.1)->Ext F σ σ'->RowR s 2 (btsV xs') σ' F->R σ')->Z1.c s ⟨262,#[],#[]⟩ σ R
theorem WlZ:∀{a b:List Nat},a.Pairwise (· < ·)->b.Pairwise (· < ·)->(∀x,x∈a↔x∈b)->a=b
 | [],[],_,_,_=>rfl
 | [],y::b,_,_,h=>by have:=(h y).2 aA;simp at this
 | x::a,[],_,_,h=>by have:=(h x).1 aA;simp at this
 | x::a,y::b,ha,hb,h=>by
  rw[zAS]at ha hb;have e:x=y:=by
   rcases zQ.1 ((h x).1 aA)with h1|h1
   ·exact h1
   ·rcases zQ.1 ((h y).2 aA)with h2|h2
    ·exact h2.symm
    ·have:=ha.1 y h2;have:=hb.1 x h1;omega
  subst e
  congr 1
  refine WlZ ha.2 hb.2 λz=>?_;have d:=h z;simp only[zQ]at d;constructor
  ·intro hza;have:=ha.1 z hza;rcases d.1 (.inr hza)with h1|h1
   ·omega
   ·exact h1
  ·intro hzb;have:=hb.1 z hzb;rcases d.2 (.inr hzb)with h1|h1
   ·omega
   ·exact h1
theorem HD {f:Cls->Li->List Int×Li}{x:Bt}:x∈Ka f tb ls↔∃c l,tb[x.1]?=some c/\ls[x.1]?=some l/\x.2=(f c l).1/\x.2≠[]:=by
 unfold Ka;rw[zEO];constructor
 ·rintro⟨k,hk,h⟩;split at h
  ·rename_i c l hc hl;split at h
   ·cases h
   ·rename_i hne;cases h;exact⟨c,l,hc,hl,rfl,hne⟩
  ·cases h
 ·rintro⟨c,l,hc,hl,e,hne⟩;refine⟨x.1,zV.2 (gSi.1 hc).1,?_⟩;rw[hc,hl];simp only;rw[zA (by rw[←e];exact hne),←e]
theorem WiW {f:Cls->Li->List Int×Li}:((Ka f tb ls).map (·.1)).Pairwise (· < ·):=by
 unfold Ka;have key:∀(n:Nat),(((List.range n).filterMap λk=>match tb[k]?,ls[k]? with
  | some c,some l=>if(f c l).1=[]then none else some ((k,(f c l).1):Bt)
  | _,_=>none).map (·.1)).Pairwise (· < ·)/\∀x∈((List.range n).filterMap λk=>match tb[k]?,ls[k]? with
  | some c,some l=>if(f c l).1=[]then none else some ((k,(f c l).1):Bt)
  | _,_=>none),x.1<n:=by
  intro n
  induction n with
  | zero=>simp
  | succ n ih=>
   rw[zAC,zDZ,zAD];refine⟨zBT.2 ⟨ih.1,?_,?_⟩,?_⟩
   ·simp only[zGE,List.filterMap_nil];split<;>simp
   ·intro a ha b hb;obtain⟨x,g,rfl⟩:=zD.1 ha;obtain⟨y,e,rfl⟩:=zD.1 hb;have j:=ih.2 x g;obtain⟨m,i,d⟩:=zEO.1 e;clear e hb ha;simp only[zW]at i;subst i;split at d
    ·split at d
     ·cases d
     ·cases d;exact j
    ·cases d
   ·intro x g;rcases zR.1 g with g|g
    ·have:=ih.2 x g;omega
    ·obtain⟨m,i,e⟩:=zEO.1 g;simp only[zW]at i;subst i;split at e
     ·split at e
      ·cases e
      ·cases e;omega
     ·cases e
 exact(key tb.length).1
def inT (todo:List (Int×Option Addr))(k:Nat):Prop:=((k:Nat):Int)∈todo.map (·.1)
instance (todo:List (Int×Option Addr)) (k:Nat):Decidable (inT todo k):=by unfold inT;infer_instance
theorem Gr {todo:List (Int×Option Addr)}{m k:Nat}:inT (todo.filter λy=>!(y.1==(m:Int))) k↔inT todo k/\k≠m:=by
 unfold inT;simp only[zD,zH,zAX,zBC];constructor
 ·rintro⟨y,⟨h1,h2⟩,h3⟩;exact⟨⟨y,h1,h3⟩,λe=>h2 O⟩
 ·rintro⟨⟨y,h1,h3⟩,h2⟩;exact⟨y,⟨h1,λe=>h2 O⟩,h3⟩
structure BtI (f:Cls->Li->List Int×Li) (tb:List Cls) (ls:List Li) (todo:List (Int×Option Addr)) (ls':List Li) (outs:List Bt):Prop where
 l:∀k c l,tb[k]?=some c->ls[k]?=some l->ls'[k]?=some (if inT todo k then l else(f c l).2)
 n:(outs.map (·.1)).Nodup
 o:∀x:Bt,x∈outs↔∃c l,tb[x.1]?=some c/\ls[x.1]?=some l/\¬inT todo x.1/\x.2=(f c l).1/\x.2≠[]
theorem BtI.step {f:Cls->Li->List Int×Li}{todo:List (Int×Option Addr)}{ls':List Li}{outs:List Bt}(h:BtI f tb ls todo ls' outs)(hc:tb[k]?=some c)(hl:ls[k]?=some l)(hk:inT todo k) :
 BtI f tb ls (todo.filter λy=>!(y.1==(k:Int))) (ls'.set k (f c l).2) (if(f c l).1=[]then outs else outs++[(k,(f c l).1)]):=by
 have A:=h.l k c l hc hl;have w:=(gSi.1 A).1;have s:∀x∈outs,x.1≠k:=λx g e=>by
  obtain⟨_,_,_,_,C,_⟩:=(h.o x).1 g;rw[e]at C;exact C hk
 refine⟨λj d m hd p=>?_,?_,λx=>?_⟩
 ·by_cases hj:j=k
  ·subst hj;rw[hc]at hd;cases hd;rw[hl]at p;cases p;rw[zM w,zA (by rw[Gr];exact λg=>g.2 rfl)]
  ·rw[zh (Ne.symm hj),h.l j d m hd p]
   congr 1
   by_cases r:inT todo j
   ·rw[zB r,zB (Gr.2 ⟨r,hj⟩)]
   ·rw[zA r,zA λg=>r (Gr.1 g).1]
 ·split
  ·exact h.n
  ·rw[zAD,zBK];refine⟨h.n,by simp,λa E b B e=>?_⟩;simp only[zJ,zCC,zW]at B;subst B;obtain⟨x,g,D⟩:=zD.1 E;exact s x g (D.trans e)
 ·have u:(∃d m,tb[x.1]?=some d/\ls[x.1]?=some m/\¬inT (todo.filter λy=>!(y.1==(k:Int))) x.1/\x.2=(f d m).1/\x.2≠[])↔x∈outs\/(x=(k,(f c l).1)/\(f c l).1≠[]):=by
   constructor
   ·rintro⟨d,m,hd,p,r,e,i⟩;by_cases hj:x.1=k
    ·right;rw[hj]at hd p;rw[hc]at hd;cases hd;rw[hl]at p;cases p;exact⟨Prod.ext hj e,by rw[←e];exact i⟩
    ·left;exact(h.o x).2 ⟨d,m,hd,p,λg=>r (Gr.2 ⟨g,hj⟩),e,i⟩
   ·rintro(g|⟨rfl,i⟩)
    ·obtain⟨d,m,hd,p,r,e,i⟩:=(h.o x).1 g;exact⟨d,m,hd,p,λz=>r (Gr.1 z).1,e,i⟩
    ·exact⟨c,l,hc,hl,λz=>(Gr.1 z).2 rfl,rfl,i⟩
  rw[u];split
  ·rename_i he;constructor
   ·exact .inl
   ·rintro(g|⟨_,i⟩)
    ·exact g
    ·exact absurd he i
  ·rename_i he;rw[zR,zW];constructor
   ·rintro(g|g)
    ·exact .inl g
    ·exact .inr ⟨g,he⟩
   ·rintro(g|g)
    ·exact .inl g
    ·exact .inr g.1
set_option maxRecDepth 4000 in
theorem WbN (hso:HP){f:Cls->Li->List Int×Li}{fn:Nat}(hf:WnM f fn)(hnil:∀c,c.ok->f c liN=([],liN))(h:CaY σ F Y tb bud ls){R:Sl->Hp->Prop}
 (hR:∀σ' s (Q:Rg),Ext F σ σ'->(∀q,Q q->σ.size<=q)->CaY σ' (λq=>Grow F σ q/\¬Q q) Y tb bud (Q6 f tb ls)->BtR s (Ka f tb ls) σ' Q->R s σ') :
 Xj.c (aW Y.p) ⟨fn,#[],#[]⟩ σ R:=by
 refine Xj.o ?_;unfold Xj.v;refine Hv h (ifF rfl (nilP (h.hd.rM rfl ?_)));have htb:=h.tb1;refine rng1 (a:=.s) h.map (λC (out:Sl) v=>∃(ls':List Li) (w:List Bt) (Q D:Rg) (ps:List (Nat×Sl)),Ext F σ v/\(∀q,Q q->σ.size<q)/\CaY v (λq=>(Cut F σ q\/σ.size<q)/\¬Q q) Y tb bud ls' ∧
  RowR out 2 (btsV ps) v (λq=>Q q/\¬D q)/\BtO ps w v D/\(∀q,D q->Q q)/\BtI f tb ls C ls' w/\(∀e∈C,e∈ptI Y.ps)/\(C.map (·.1)).Nodup/\Djp ps) ?_ ?_ ?_
 ·intro v hz e;refine⟨ls,[],λ_=>False,λ_=>False,[],Ext0.to e,λq g=>g.elim,((CaY.loc.keep0 h.cut e).mono λq _ g=>⟨.inl g,id⟩),RowR.nil _ _ _ _,⟨rfl,λi p x K=>by simp at K⟩,λq g=>g.elim,⟨λk c l E N=>?_,by simp,λx=>?_⟩,λe P=>P,h.map.nodup,List.Pairwise.nil⟩
  ·by_cases Z:inT (ptI Y.ps) k
   ·rw[zB Z,N]
   ·rw[zA Z];have hf0:lkp Y.ps k=none:=by
     unfold lkp;simp only[zCO,zBN,zX];exact λx r e=>Z (zD.2 ⟨((x.1:Int),some ⟨x.2,0,none⟩),zD.2 ⟨x,r,rfl⟩,by rw[e]⟩)
    have:=h.nil hf0 N;rw[N,this,hnil c (h.ok c (zE E))]
  ·simp only[List.not_mem_nil,false_iff];rintro⟨c,l,E,N,Z,e,hne⟩;have hf0:lkp Y.ps x.1=none:=by
    unfold lkp;simp only[zCO,zBN,zX];exact λy V e=>Z (zD.2 ⟨((y.1:Int),some ⟨y.2,0,none⟩),zD.2 ⟨y,V,rfl⟩,by rw[e]⟩)
   have:=h.nil hf0 N;rw[this,hnil c (h.ok c (zE E))]at e;exact hne e
 ·rintro out v ⟨ls',w,Q,D,ps,e,hQ,hC,X,hB,hD,hI,_,_,U⟩;have hno:∀k,¬inT [] k:=λk hk=>by simp[inT]at hk
  have hls:ls'=Q6 f tb ls:=by
   apply zw;intro k;by_cases hk:k<tb.length
   ·have E:tb[k]?=some tb[k]:=gGe hk;have N:ls[k]?=some (ls[k]'(by rw[h.len];exact hk)):=gGe _;rw[hI.l k _ _ E N,zA (hno k)];simp[Q6,zGV,E,N]
   ·rw[zZ (by rw[hC.len];omega),zZ (by simp[Q6,h.len];omega)]
  subst hls;have hk1:∀(i:Nat) p,ps[i]?=some p->∃x,w[i]?=some x/\p.1=x.1/\SlR p.2 1 (Wv x.2) v D/\p.2.len<=p.2.cap:=λi p K=>by
   have Z:=(gSi.1 K).1;have r:w[i]?=some (w[i]'(by rw[←hB.1];exact Z)):=gGe _;exact⟨_,r,hB.2 i p _ K r⟩
  have B:ps.map (·.1)=w.map (·.1):=by
   apply zw;intro i;simp only[ze];cases K:ps[i]? with
   | none=>
    have:w[i]?=none:=by
     rw[List.getElem?_eq_none_iff]at K ⊢;rw[←hB.1];exact K
    rw[this];rfl
   | some p=>
    obtain⟨x,r,e1,_⟩:=hk1 i p K;rw[r];simp[e1]
  have W:∀x∈w,x.1<40:=λx r=>by
   obtain⟨c,l,E,_⟩:=(hI.o x).1 r;have:=(gSi.1 E).1;omega
  have hlen:ps.length<=40:=by
   have hn:=hI.n;rw[←B]at hn;have:=hn.length_le_of_subset (l₂:=List.range 40) λj U=>by
    rw[B]at U;obtain⟨x,r,rfl⟩:=zD.1 U;exact zV.2 (W x r)
   simpa using this
  refine hso X (λp K=>?_) O λps' v' M hsort e' hrow'=>?_
  ·have:p.1∈w.map (·.1):=by rw[←B];exact zD.2 ⟨p,K,rfl⟩
   obtain⟨x,r,e1⟩:=zD.1 this;have:=W x r;omega
  ·have hnd:(ps'.map (·.1)).Nodup:=(M.map _).nodup_iff.2 (by rw[B];exact hI.n);have hinc:(ps'.map (·.1)).Pairwise (· < ·):=by
    refine List.Pairwise.map (R:=λa b:Nat×Sl=>a.1<b.1) _ (λa b hab=>hab) ?_;have A:ps'.Pairwise λa b=>a.1≠b.1:=zCN.1 hnd;exact(hsort.and A).imp λ{a b} hab=>by have:=hab.1;have:=hab.2;omega
   have hkk:ps'.map (·.1)=(Ka f tb ls).map (·.1):=by
    refine WlZ hinc WiW λj=>?_;rw[(M.map _).mem_iff,B];constructor
    ·intro U;obtain⟨x,r,rfl⟩:=zD.1 U;obtain⟨c,l,E,N,_,e1,e2⟩:=(hI.o x).1 r;exact zD.2 ⟨x,HD.2 ⟨c,l,E,N,e1,e2⟩,rfl⟩
    ·intro U;obtain⟨x,r,rfl⟩:=zD.1 U;obtain⟨c,l,E,N,e1,e2⟩:=HD.1 r;exact zD.2 ⟨x,(hI.o x).2 ⟨c,l,E,N,hno _,e1,e2⟩,rfl⟩
   have eQ:Ext F σ v':=e.newT e' λq g=>.inr (zCR (hQ q g.1));refine hR v' out Q eQ (λq g=>zCR (hQ q g)) ?_ ⟨ps',D,hrow'.o,⟨?_,λi p x K r=>?_⟩,hD,(M.pairwise_iff λ{a b} hab x y A h2 e=>hab y x h2 A e.symm).2 U,λx r=>by
    obtain⟨_,_,_,_,_,h2⟩:=HD.1 r;exact h2⟩
   ·refine(CaY.loc.keep hC e' λq _ g hq2=>g.2 hq2.1).mono λq _ g=>⟨?_,g.2⟩;rcases g.1 with r|r
    ·exact .inl r.1
    ·exact .inr (zCR r)
   ·have:=congrArg List.length hkk;simpa using this
   ·have e1:p.1=x.1:=by
     have:=congrArg (λl=>l[i]?) hkk;simp only[ze,K,r,zf,Option.some.injEq]at this;exact this
    obtain⟨j,U⟩:=zN (M.mem_iff.1 (zE K));obtain⟨y,V,e2,hs,hcap⟩:=hk1 j p U;have e3:x.2=y.2:=by
     obtain⟨c,l,E,N,_,A,_⟩:=(hI.o y).1 (zE V);obtain⟨c',l',hc',hl',h2,_⟩:=HD.1 (zE r);rw[←e1,e2,E]at hc';cases hc';rw[←e1,e2,N]at hl';cases hl';rw[A,h2]
    rw[e3];exact⟨e1,aH.keep hs e' λq _ g hq2=>hq2.2 g,hcap⟩
 ·rintro C n x out v v' J ⟨ls',w,Q,D,ps,e,hQ,hC,X,hB,hD,hI,hsub,hnd,U⟩ r ho hlt hJ;have e1:Ext F σ v':=e.only ho (.inr (zC _));have S:CaY v' (λq=>(Cut F σ q\/σ.size<q)/\¬Q q) Y tb bud ls':=CaY.loc.keep hC ho.ext λq _ g P=>by
   rcases g.1 with A|A
   ·have:=A.2;omega
   ·omega
  have hrow1:RowR out 2 (btsV ps) v' (λq=>(Q q/\¬D q)/\q<v'.size):=aI.cut (aI.keep X ho.ext λq _ g P=>by have:=hQ q g.1;omega);have hB1:BtO ps w v' (λq=>D q/\q<v'.size):=(BtO.loc _ _).cut ((BtO.loc _ _).keep hB ho.ext λq _ g P=>by have:=hQ q (hD q g);omega);have hmem:=hsub _ r;simp only[ptI,zD,Prod.mk.injEq]at hmem;obtain⟨⟨k,b⟩,hkb,hk1,hx1⟩:=hmem;simp only at hk1 hx1;subst hk1;subst hx1;have hk:=h.keys _ hkb;simp only at hk;have E:tb[k]?=some tb[k]:=gGe hk;have N:ls[k]?=some (ls[k]'(by rw[h.len];exact hk)):=gGe _;generalize tb[k]=c at E;generalize (ls[k]'(by rw[h.len];exact hk))=l at N;have hcok:=h.ok c (zE E);have hlk:lkp Y.ps k=some b:=WlS h.map.nodup hkb;have hin:inT C k:=zD.2 ⟨_,r,rfl⟩;have hl':ls'[k]?=some l:=by rw[hI.l k c l E N,zB hin]
  have L:=hI.step E N hin;have hmF:(λq=>(Cut F σ q\/σ.size<q)/\¬Q q) Y.m:=by
   obtain⟨H,hH,hm⟩:=S.sep.get .mp;exact hH _ hm.1
  obtain⟨G,hG,hL,hGm,hput⟩:=S.liS hlk hl';have hbF:=hG b hL.1;have hbm:b≠Y.m:=λe=>hGm (e▸hL.1);have hbs:b≠σ.size:=λe=>by
   subst e;rcases hbF.1 with A|A
   ·have:=A.2;omega
   ·omega
  have hblt:b<v'.size:=by obtain⟨_,_,s,hbk,_⟩:=hL;exact hbk.lt
  have hsz1:=ho.1;refine nilP (S.hd.rS rfl (Wbc S.tabS E (d:=2) O ?_));simp only[zA (show ¬(2=0) by omega),zA (show ¬(2=1) by omega)];refine hf hL hcok λs z v5 e5 hz hr hL5=>?_;have hs5:=e5.1;obtain⟨eF,h5⟩:=hput v5 _ (λq=>q=b\/z<=q) (e5.sub λq g=>by rw[g];exact hL.1) (λq g=>g.imp (λ(r:q=b)=>by rw[r];exact hL.1) λ(r:z<=q)=>O) hL5;have h5:=h5.cut;have eF5:Ext F σ v5:=e1.newT eF λq g=>by
   rcases g.1 with A|A
   ·exact .inl A.1
   ·exact .inr (zCR A)
  have hnb:∀q,Q q->q≠b:=λq g hqb=>hbF.2 (hqb▸g);have hrow5:=aI.keep hrow1 e5 λq _ g P=>hnb q g.1.1 P;have hB5:=(BtO.loc _ _).keep hB1 e5 λq _ g P=>hnb q (hD q g.1) P;have hsl:s.len=(f c l).1.length:=by have:=hr.1;simp[Wv]at this;omega
  have hsub':∀y∈C.filter (λy=>!(y.1==(k:Int))),y∈ptI Y.ps:=λy V=>hsub y (zH.1 V).1;have hnd':((C.filter λy=>!(y.1==(k:Int))).map (·.1)).Nodup:=hnd.sublist (List.filter_sublist.map _);by_cases hemp:(f c l).1=[]
  ·rw[zB hemp]at L;refine ifDF (by rw[hsl,hemp];simp) (hJ out v5 (e5.2 _ O λP=>hbs P.symm) (e5.2 _ S.map.lt λP=>hbm P.symm) ?_);refine⟨_,w,λq=>Q q/\q<v'.size,λq=>D q/\q<v'.size,ps,eF5,λq g=>hQ q g.1,h5.mono λq _ g=>?_,aI.mono hrow5 λq _ g=>⟨⟨g.1.1,g.2⟩,λhd=>g.1.2 hd.1⟩,hB5,λq g=>⟨hD q g.1,g.2⟩,L,hsub',hnd',U⟩;rcases g.1 with A|A|A
   ·exact⟨A.1.1,λr=>A.1.2 r.1⟩
   ·subst A;exact⟨hbF.1,λr=>hbF.2 r.1⟩
   ·exact⟨.inr O,λr=>O⟩
  ·rw[zA hemp]at L;have hpos:=zCG.2 hemp;refine ifDT (by rw[hsl];omega) (nw (cs:=btV (k,s)) λv6 hz6 e6 hb6=>?_);have hrow6:=aI.keep0 hrow5 e6;have hB6:=(BtO.loc _ _).keep0 hB5 e6;have hr6:=aI.keep0 (aI.cut hr) e6;have hpl:out.len=ps.length:=by have:=X.1;rw[Ky]at this;omega
   have hol:ps.length<=40:=by
    have B:w.map (·.1)⊆List.range 40:=λj U=>by
     obtain⟨x,r,rfl⟩:=zD.1 U;obtain⟨c,l,E,_⟩:=(hI.o x).1 r;have:=(gSi.1 E).1;exact zV.2 O
    have:=hI.n.length_le_of_subset B;rw[hB.1];simpa using this
   refine hrow6.app (ys:=btV (k,s)) rfl rfl ?_ (λv hv=>Hu (l:=[(k,s)]) v (by simpa[btsV]using hv)) ?_ ?_ zBG λs' v7 hl7 e7 hr7=>?_
   ·intro j u hu;rw[add_lit,zG,hb6.cell];exact hu
   ·simp only;have:(out.len+1)*32<=41*32:=zAF O O;omega
   ·simp only;omega
   have hs7:=e7.1;have e57:Ext (λq=>(Q q/\¬D q)/\q<v'.size) v5 v7:=(Ext0.to e6).trans e7;refine hJ s' v7 ?_ ?_ ?_
   ·rw[e57.2 _ O λr=>by have:=hQ _ r.1.1;omega];exact e5.2 _ O λP=>hbs P.symm
   ·rw[e57.2 _ (by have:=S.map.lt;omega) λr=>hmF.2 r.1.1];exact e5.2 _ S.map.lt λP=>hbm P.symm
   refine⟨_,_,λq=>Q q/\q<v'.size\/(v'.size<=q/\q<z)\/v5.size<=q,λq=>D q/\q<v'.size\/(v'.size<=q/\q<z)/\q<v5.size,ps++[(k,s)],eF5.newT e57 λq g=>.inr (zCR (hQ q g.1.1)),λq g=>?_,(CaY.loc.keep h5 e57 λq hq5 g r=>?_).mono λq _ g=>?_,?_,⟨?_,λi p y K V=>?_⟩,λq g=>?_,L,hsub',hnd',U.snoc hB1 (λx r=>by
    obtain⟨_,_,_,_,_,_,h2⟩:=(hI.o x).1 r;exact h2) hr.slR hemp (λb hb r V=>by have:=r.2;have:=V.1;omega) k⟩
   ·rcases g with g|g|g
    ·exact hQ q g.1
    ·omega
    ·omega
   ·rcases g.1 with A|A|A
    ·exact A.1.2 r.1.1
    ·exact hnb q r.1.1 A
    ·have:=r.2;omega
   ·have hq5:=g.2;rcases g.1 with A|A|A
    ·exact⟨A.1.1,λr=>by
      rcases r with r|r|r
      ·exact A.1.2 r.1
      ·have:=A.2.1;omega
      ·omega⟩
    ·subst A;exact⟨hbF.1,λr=>by
      rcases r with r|r|r
      ·exact hbF.2 r.1
      ·omega
      ·omega⟩
    ·exact⟨.inr O,λr=>by
      rcases r with r|r|r<;>omega⟩
   ·rw[U5];have:btsV [(k,s)]=btV (k,s):=by simp[btsV]
    rw[this];refine aI.mono hr7 λq _ g=>?_;rcases g with g|g
    ·exact⟨.inl ⟨g.1.1,g.2⟩,λhd=>by
      rcases hd with hd|hd
      ·exact g.1.2 hd.1
      ·omega⟩
    ·exact⟨.inr (.inr O),λhd=>by
      rcases hd with hd|hd<;>omega⟩
   ·rw[zK,zK,hB.1];rfl
   ·rcases zAO i ps.length with Z|Z
    ·rw[zd Z]at K;rw[zd (by rw[←hB.1];exact Z)]at V;obtain⟨a1,a2,a3⟩:=hB6.2 i p y K V;exact⟨a1,aH.mono (aH.keep a2 e7 λq _ g r=>r.1.2 g.1) λq _ g=>.inl g,a3⟩
    ·rw[zm Z]at K;rw[zm (by rw[←hB.1];exact Z)]at V;have hi0:i-ps.length=0:=by
      have:=(gSi.1 K).1;simp at this;omega
     rw[hi0]at K;rw[show i-w.length=0 by rw[←hB.1];exact hi0]at V;simp at K V;subst K;subst V;exact⟨rfl,aH.mono (aH.keep hr6.slR e7 λq _ g r=>by have:=r.2;have:=g.1;omega) λq _ g=>.inr g,RowR.capO hr⟩
   ·rcases g with g|g
    ·exact .inl ⟨hD q g.1,g.2⟩
    ·exact .inr (.inl g.1)
theorem Wkk (hso:HP)(h:CaY σ F Y tb bud ls){R:Sl->Hp->Prop}
 (hR:∀σ' s (Q:Rg),Ext F σ σ'->(∀q,Q q->σ.size<=q)->CaY σ' (λq=>Grow F σ q/\¬Q q) Y tb bud (Q6 ZX tb ls)->BtR s (Ka ZX tb ls) σ' Q->R s σ'):XS.c (aW Y.p) σ R:=by
 refine XS.o ?_;unfold XS.v;exact WbN hso Whi (λc _=>Wgk c) h hR
theorem Wd8 (hso:HP)(h:CaY σ F Y tb bud ls){R:Sl->Hp->Prop}
 (hR:∀σ' s (Q:Rg),Ext F σ σ'->(∀q,Q q->σ.size<=q)->CaY σ' (λq=>Grow F σ q/\¬Q q) Y tb bud (Q6 KK tb ls)->BtR s (Ka KK tb ls) σ' Q->R s σ'):Xa.c (aW Y.p) σ R:=by
 refine Xa.o ?_;unfold Xa.v;exact WbN hso Wlc Wic h hR
end Go.Ar
namespace Go.Proofs
open Go.Vc
set_option maxRecDepth 100000
def Y8.h:Hn:=.q .o1 (.q (.q .o3 .aK) (.q .o1 (.q (.q .o8 (.k (.loop [(3,.one .s),(16,.I)] (.q .o1 (.q (.c .l .l) (.q (.k (.q .o3 .o10)) .o2)))))) .aL)))
def Y8.v (a:R2)(b:Hp)(c:Sl->Hp->Prop):Prop:=WR.c a b λd e=>If (!d) (c ⟨none,0,0⟩ e) (bI a 9 e λg=>ZO.c g e λh i=>VJ.c h i λj k=>W7 [.s,bN] (λl=>l ⟨none,0,0⟩ 0 k) λm (n:Sl) (o:Int) p=>If (o<((j.len:Nat):Int)) (Ix j.a j.len o 1 λq=>bM q p λr=>NilP a λs=>bB s 9 p λt=>Lk .i64 (.ag 4) t r p λu=>aV #[.I ((u.getD (0,0,0,0)).1),.I ((u.getD (0,0,0,0)).2.1),.I ((u.getD (0,0,0,0)).2.2.1),.I ((u.getD (0,0,0,0)).2.2.2)] 76 p λv w=>App n 4 32 76 [.I 0,.I 0,.I 0,.I 0] ⟨some v,1,1⟩ w λx y=>bL (o+1) λz=>m x z y) (c n p))
theorem Y8.o {a b c}(d:Y8.v a b c):Y8.c a b c:=Wa Tryz.func31 (x:=Y8.h) (R0 d)
def YS.h:Hn:=.q .o1 (.q (.q .o3 .aK) (.q .o6 .l))
def YS.v (a:R2)(b:Hp)(c:Sl->Hp->Prop):Prop:=WR.c a b λd e=>If (!d) (c ⟨none,0,0⟩ e) (bE a 0 e λg=>Wc.c g e λh i=>c h i)
theorem YS.o {a b c}(d:YS.v a b c):YS.c a b c:=Wa Tryz.func33 (x:=YS.h) (R0 d)
def YU.h:Hn:=.q .o1 (.q (.q .o3 .aJ) (.q (.reg (.heldJ true [12] [(3,.one .ad)] (.tk [0,1,2,3,5,6,7,8] (.all [(4,.all [(9,.take 10 (.all [(11,.all [(12,.done)])])),(11,.all [(9,.take 10 (.all [(12,.done)]))])]),(11,.all [(4,.all [(9,.take 10 (.all [(12,.done)]))])])])))) (.q (.q .o5 (.k (.loop [] (.q (.reg (.seq [.it .i64 (.ag 4),.op])) (.q (.c .l .l) (.k (.q (.reg (.seq [.it .i64 (.ag 4),.op,.op,.op])) (.q .o3 (.c .o7 .l))))))))) (.q (.q .o6 (.k (.loop [(56,.I)] (.q .o1 (.q (.c .l .l) (.q (.k (.q .o4 (.q (.reg (.held true [7] (.tk [0,1,2,3] (.all [(4,.take 5 (.take 6 (.all [(7,.done)])))])))) (.q .o4 (.k (.loop [(70,.I)] (.q .o1 (.q (.c .l .l) (.q (.k (.q .o4 (.reg (.tail 17 (RI.ops 17) [.op])))) .o2))))))))) .o2)))))) (.q (.q .o6 (.k (.loop [(98,.I)] (.q .o1 (.q (.c .l .l) (.q (.k (.q .o3 (.q (.o 15) (.q (.o 18) (.o 19))))) .o2)))))) .aL)))))
def YU.v (a:R2)(b:Hp)(c:Int->Int->Int->Int->Int->Int->Int->Int->Int->Int->Int->Hp->Prop):Prop:=aV #[.I 0,.I 0,.I 0,.I 0,.I 0,.I 0,.I 0,.I 0,.I 0,.I 0,.I 0] 89 b λd e=>WR.c a e λf g=>If (!f) (aR d 0 (.I 0) g λh=>aR d 1 (.I 0) h λi=>aR d 2 (.I 0) i λj=>aR d 3 (.I 0) j λk=>aR d 4 (.I 0) k λl=>aR d 5 (.I 0) l λm=>aR d 6 (.I 0) m λn=>aR d 7 (.I 0) n λo=>aR d 8 (.I 0) o λp=>aR d 9 (.I 0) p λq=>aR d 10 (.I 0) q λr=>aQ d 0 r λs=>aQ d 1 r λt=>aQ d 2 r λu=>aQ d 3 r λv=>aQ d 4 r λw=>aQ d 5 r λx=>aQ d 6 r λy=>aQ d 7 r λz=>aQ d 8 r λaa=>aQ d 9 r λab=>aQ d 10 r λac=>c s t u v w x y z aa ab ac r) (Jn [.ad] (λ(ad:Addr) ae=>bI a 9 ae λag=>Rng .i64 (.ag 4) ag ae λah ai=>W7 [] (λaj=>aj ai) λak al=>Nxt .i64 (.ag 4) ah al (bE a 8 al λan=>W7 [bN] (λao=>ao 0 al) λap (aq:Int) ar=>If (aq<((an.len:Nat):Int)) (Ix an.a an.len aq 3 λau=>aY au 0 ar λav=>aX au 1 ar λaw=>bA au 2 ar λax=>aV #[.pointer none,.slice none 0 0,.nilIface] 128 ar λay az=>O1 ax <| aR ay 0 (.pointer av) az λa0=>aR ay 1 (.slice aw.a aw.len aw.cap) a0 λa1=>aR ay 2 (ax) a1 λa2=>Held a2 λa3=>aS a3 ad 1 λa4=>aU a3 ay 0 λa5=>Xw.c a5 a2 λa6 a7=>
 And (a3 a7) <| bL (a4+a6) λa8=>aR ad 1 (.I a8) a7 λa9=>aX ay 1 a9 λba=>W7 [bN] (λbb=>bb 0 a9) λbc (bd:Int) be=>If (bd<((ba.len:Nat):Int)) (Ix ba.a ba.len bd 2 λbf=>aQ bf 0 be λbg=>aX bf 1 be λbh=>aV #[.I 0,.slice none 0 0] 130 be λbi bj=>aR bi 0 (.I bg) bj λbk=>aR bi 1 (.slice bh.a bh.len bh.cap) bk λbl=>aQ ad 2 bl λbm=>aX bi 1 bl λbn=>bE a 0 bl λbp=>aQ bi 0 bl λbq=>Ix bp.a bp.len bq 3 λbr=>aQ br 0 bl λbs=>bL (((bn.len:Nat):Int)*bs) λbt=>bL (bm+bt) λbu=>aR ad 2 (.I bu) bl λbv=>bL (bd+1) λbw=>bc bw bv) (bL (aq+1) λbx=>ap bx be)) (bE a 7 ar λb0=>W7 [bN] (λb1=>b1 0 ar) λb2 (b3:Int) b4=>If (b3<((b0.len:Nat):Int)) (Ix b0.a b0.len b3 1 λb5=>LdP b5 b4 λb6=>X7.c b6 b4 λb7 b8 b9 ca cb cc cd=>aQ ad 3 cd λce=>bL (ce+b7) λcf=>aQ ad 4 cd λcg=>bL (cg+b8) λch=>aQ ad 5 cd λci=>bL (ci+b9) λcj=>aR ad 3 (.I cf) cd λck=>aR ad 4 (.I ch) ck λcl=>aR ad 5 (.I cj) cl λcm=>aQ ad 7 cm λcn=>bL (cn+ca) λco=>aQ ad 6 cm λcp=>bL (cb*256) λcq=>bL (cp+cq) λcr=>aQ ad 8 cm λcs=>bL (cs+cc) λct=>aR ad 7 (.I co) cm λcu=>aR ad 6 (.I cr) cu λcv=>aR ad 8 (.I ct) cv λcw=>bL (b3+1) λcx=>b2 cx cw) (aQ ad 0 b4 λcy=>aQ ad 1 b4 λcz=>
 aQ ad 2 b4 λc0=>aQ ad 3 b4 λc1=>aQ ad 4 b4 λc2=>aQ ad 5 b4 λc3=>aQ ad 6 b4 λc4=>aQ ad 7 b4 λc5=>aQ ad 8 b4 λc6=>aQ ad 9 b4 λc7=>aQ ad 10 b4 λc8=>aR d 0 (.I cy) b4 λc9=>aR d 1 (.I cz) c9 λda=>aR d 2 (.I c0) da λdb=>aR d 3 (.I c1) db λdc=>aR d 4 (.I c2) dc λdd=>aR d 5 (.I c3) dd λde=>aR d 6 (.I c4) de λdf=>aR d 7 (.I c5) df λdg=>aR d 8 (.I c6) dg λdh=>aR d 9 (.I c7) dh λdi=>aR d 10 (.I c8) di λdj=>aQ d 0 dj λdk=>aQ d 1 dj λdl=>aQ d 2 dj λdm=>aQ d 3 dj λdn=>aQ d 4 dj λdp=>aQ d 5 dj λdq=>aQ d 6 dj λdr=>aQ d 7 dj λds=>aQ d 8 dj λdt=>aQ d 9 dj λdu=>aQ d 10 dj λdv=>c dk dl dm dn dp dq dr ds dt du dv dj))) (λdw dx dy=>Ent .i64 (.ag 4) ah dy λdz d0=>aV #[.I 0,.I 0,.I 0,.I 0] 76 dy λd1 d2=>aR d1 0 (.I d0.1) d2 λd3=>aR d1 1 (.I d0.2.1) d3 λd4=>aR d1 2 (.I d0.2.2.1) d4 λd5=>aR d1 3 (.I d0.2.2.2) d5 λd6=>aQ d1 2 d6 λd7=>If (d7≥0) (aQ ad 0 d6 λd8=>aQ d1 1 d6 λd9=>bL (d8+d9) λea=>aR ad 0 (.I ea) d6 λeb=>ak eb) (ak d6))) λec=>Held g λed=>NilP a λee=>aU ed ee 6 λef=>NilP a λeg=>aU ed eg 6 λeh=>(Xz.c ef g λei ej=>And (ed ej) <|
 (Xr.c eh ej λek el=>And (ed el) <| aV #[.I 0,.I 0,.I 0,.I 0,.I 0,.I 0,.I 0,.I 0,.I 0,.I 0,.I 0] 89 el λem en=>And (ed en) <| aR em 0 (.I 0) en λeo=>aR em 1 (.I 0) eo λep=>aR em 2 (.I 0) ep λeq=>aR em 3 (.I 0) eq λer=>aR em 4 (.I 0) er λes=>aR em 5 (.I 0) es λet=>aR em 6 (.I 0) et λeu=>aR em 7 (.I 0) eu λev=>aR em 8 (.I 0) ev λew=>aR em 9 (.I ei) ew λex=>aR em 10 (.I ek) ex λey=>ec em ey) ∧ (aV #[.I 0,.I 0,.I 0,.I 0,.I 0,.I 0,.I 0,.I 0,.I 0,.I 0,.I 0] 89 ej λez e0=>And (ed e0) <| Xr.c eh e0 λe1 e2=>And (ed e2) <| aR ez 0 (.I 0) e2 λe3=>aR ez 1 (.I 0) e3 λe4=>aR ez 2 (.I 0) e4 λe5=>aR ez 3 (.I 0) e5 λe6=>aR ez 4 (.I 0) e6 λe7=>aR ez 5 (.I 0) e7 λe8=>aR ez 6 (.I 0) e8 λe9=>aR ez 7 (.I 0) e9 λfa=>aR ez 8 (.I 0) fa λfb=>aR ez 9 (.I ei) fb λfc=>aR ez 10 (.I e1) fc λfd=>ec ez fd)) ∧ (aV #[.I 0,.I 0,.I 0,.I 0,.I 0,.I 0,.I 0,.I 0,.I 0,.I 0,.I 0] 89 g λfe ff=>And (ed ff) <| Xz.c ef ff λfg fh=>And (ed fh) <| Xr.c eh fh λfi fj=>And (ed fj) <| aR fe 0 (.I 0) fj λfk=>aR fe 1 (.I 0) fk λfl=>aR fe 2 (.I 0) fl λfm=>aR fe 3 (.I 0) fm λfn=>aR fe 4 (.I 0) fn λfo=>aR fe 5 (.I 0) fo λfp=>aR fe 6 (.I 0) fp λfq=>aR fe 7 (.I 0) fq λfr=>aR fe 8 (.I 0) fr λfs=>aR fe 9 (.I fg) fs λft=>aR fe 10 (.I fi) ft λfu=>
 ec fe fu))
theorem YU.o {a b c}(d:YU.v a b c):YU.c a b c:=Wa Tryz.func36 (x:=YU.h) (R0 d)
def Yh.h:Hn:=.q .o2 (.q .o10 .l)
def Yh.v (a:R2)(b c d:Int)(e:Hp)(f:Int->Int->Hp->Prop):Prop:=XQ.c a b 0 c d 0 e λg h i=>f g h i
theorem Yh.o {a b c d e f}(g:Yh.v a b c d e f):Yh.c a b c d e f:=Wa Tryz.func52 (x:=Yh.h) (R0 g)
def Zd.h:Hn:=.q .o1 (.q (.q .o3 .aJ) (.q .o5 .l))
def Zd.v (a:R2)(b:Hp)(c:Int->Int->Int->Int->Int->Hp->Prop):Prop:=aV #[.I 0,.I 0,.I 0,.I 0,.I 0] 40 b λd e=>WR.c a e λf g=>If (!f) (aR d 0 (.I 0) g λh=>aR d 1 (.I 0) h λi=>aR d 2 (.I 0) i λj=>aR d 3 (.I 0) j λk=>aR d 4 (.I 0) k λl=>aQ d 0 l λm=>aQ d 1 l λn=>aQ d 2 l λo=>aQ d 3 l λp=>aQ d 4 l λq=>c m n o p q l) (NilP a λr=>bM ((r.add 1).add 0) g λs=>bM ((r.add 1).add 1) g λt=>bM ((r.add 1).add 2) g λu=>bM ((r.add 1).add 3) g λv=>bM ((r.add 1).add 4) g λw=>aR d 0 (.I s) g λx=>aR d 1 (.I t) x λy=>aR d 2 (.I u) y λz=>aR d 3 (.I v) z λaa=>aR d 4 (.I w) aa λab=>aQ d 0 ab λac=>aQ d 1 ab λad=>aQ d 2 ab λae=>aQ d 3 ab λaf=>aQ d 4 ab λag=>c ac ad ae af ag ab)
theorem Zd.o {a b c}(d:Zd.v a b c):Zd.c a b c:=Wa Tryz.func55 (x:=Zd.h) (R0 d)
def Zn.h:Hn:=.q .o1 (.q .o10 .aL)
def Zn.v (a:R2)(b c:Int)(d:Hp)(e:aN):Prop:=XQ.c a b 1 0 0 c d λf g h=>e g h
theorem Zn.o {a b c d e}(f:Zn.v a b c d e):Zn.c a b c d e:=Wa Tryz.func58 (x:=Zn.h) (R0 f)
def WR.h:Hn:=.q .o1 (.q (.reg (.seq [.op,.op,.op,.grd true 6 (RI.ops 6),.op])) .l)
def WR.v (a:R2)(b:Hp)(c:aO):Prop:=JnB (λd e=>c d e) λf=>If (!a.isNone) (bE a 8 b λh=>f (decide (((h.len:Nat):Int)>0)) b) (f false b)
theorem WR.o {a b c}(d:WR.v a b c):WR.c a b c:=Wa Tryz.func65 (x:=WR.h) (R0 d)
def Yn.h:Hn:=.q .o2 (.q (.q .o2 .aK) (.q .o7 .l))
def Yn.v (a:R2)(b:Int)(c:Hp)(d:aN):Prop:=aV #[.I b] 3 c λe f=>bM e f λg=>If (g<0) (d (-1) f) (bE a 7 f λi=>Wk.c i ⟨112,#[],#[.pointer (some e)]⟩ f λj k=>d j k)
theorem Yn.o {a b c d}(e:Yn.v a b c d):Yn.c a b c d:=Wa Tryz.func75 (x:=Yn.h) (R0 e)
def XQ.h:Hn:=.q .o3 (.q (.q .o5 (.q .o2 (.c (.q .o3 .l) .l))) (.k (.loop [] (.k (.q (.o 11) (.q .o1 (.c (.q (.oq 6) .l) .l)))))))
def XQ.v (a:R2)(b c d e f:Int)(g:Hp)(h:Int->Int->Hp->Prop):Prop:=aV #[.I c,.I d,.I e,.I f] 142 g λi j=>aQ i 0 j λk=>aQ i 1 j λl=>aQ i 2 j λm=>aQ i 3 j λn=>Yb.c a b k l m n j λo p=>If (o != 0) (h 0 o p) (W7 [] (λq=>q p) λr s=>Zb.c a b s λt u v w x=>aV #[.I 0,.I 0] 156 x λy z=>aR y 0 (.I u) z λaa=>aR y 1 (.I v) aa λab=>If t (aQ y 0 ab λac=>aQ y 1 ab λad=>h ac ad ab) (r ab))
theorem XQ.o {a b c d e f g h}(i:XQ.v a b c d e f g h):XQ.c a b c d e f g h:=Wa Tryz.func83 (x:=XQ.h) (R0 i)
def Zk.h:Hn:=.q .o1 (.q (.q .o3 .aK) (.q .o5 .l))
def Zk.v (a:R2)(b:Hp)(c:Option Addr->Hp->Prop):Prop:=WR.c a b λd e=>If (!d) (c none e) (bF a 6 e λg=>c g e)
theorem Zk.o {a b c}(d:Zk.v a b c):Zk.c a b c:=Wa Tryz.func84 (x:=Zk.h) (R0 d)
def Ku.h:Hn:=.q .o3 (.q (.k (.q .o4 (.c .aL (.q .o4 .aJ)))) (.q (.reg (.heldJ true [] [(6,.one .p)] (.take 0 (.take 2 (.all [(1,.all [(3,.take 4 (.all [(5,.take 6 (.done))]))]),(3,.all [(1,.take 4 (.all [(5,.take 6 (.done))]))])]))))) (.q .o10 (.q (.q .o3 (.k (.loop [(36,.I)] (.q .o1 (.q (.c .l .l) (.q (.k (.q (.reg (.held true [7] (.take 0 (.take 1 (.take 2 (.take 3 (.take 4 (.take 5 (.take 6 (.all [(7,.take 8 (.take 9 (.take 10 (.take 11 (.take 12 (.done))))))])))))))))) (.o 11))) .o2)))))) (.q (.q .o3 (.k (.loop [(62,.I)] (.q .o1 (.q (.c .l .l) (.q (.k (.q .o9 (.o 12))) .o2)))))) (.q .o3 .l))))))
def Ku.v (a:Sl)(b c d e f:Int)(g:Hp)(h:Option Addr->Int->Hp->Prop):Prop:=aV #[.I b,.I c,.I d,.I e,.I f] 40 g λi j=>ZG.c a j λk l=>If (!k) (h none 2 l) (aQ i 0 l λm=>aQ i 1 l λn=>aQ i 2 l λo=>aQ i 3 l λp=>aQ i 4 l λq=>QA.c m n o p q l λr s=>If (!r) (h none 1 s) (Jn [.p] (λ(t:R2) u=>aQ i 0 u λv=>QY.c v u λw x y=>NilP t λz=>aR z 6 (.pointer w) y λaa=>aQ i 1 aa λab=>W7 [bN] (λac=>ac 0 aa) λad (ae:Int) af=>If (ae<ab) (Held af λag=>NilP t λah=>aU ag ah 6 λai=>aS ag i 4 λaj=>Q1.c a ai aj af λak al am=>bE t 7 am λao=>aV #[.pointer ak] 131 am λap aq=>App ao 1 8 131 [.pointer none] ⟨some ap,1,1⟩ aq λar au=>NilP t λav=>aR av 7 (.slice ar.a ar.len ar.cap) au λaw=>bL (ae+1) λax=>ad ax aw) (aQ i 2 af λay=>W7 [bN] (λaz=>az 0 af) λa0 (a1:Int) a2=>If (a1<ay) (aQ i 3 a2 λa3=>Q0.c a a3 a2 λa4 a5 a6=>bE t 8 a6 λa8=>aV #[.pointer a4,.slice none 0 0,.nilIface] 128 a6 λa9 ba=>App a8 3 48 128 [.pointer none,.slice none 0 0,.nilIface] ⟨some a9,1,1⟩ ba λbb bc=>NilP t λbd=>aR bd 8 (.slice bb.a bb.len bb.cap) bc λbe=>bL (a1+1) λbf=>a0 bf be) (h t 0 a2))) λbg=>Held s λbh=>aS bh i 0 λbi=>aS bh i 1 λbj=>
 aS bh i 2 λbk=>aS bh i 3 λbl=>aS bh i 4 λbm=>(Wc.c a s λbn bo=>And (bh bo) <| Nw (.map #[] 0) bo λbp bq=>And (bh bq) <| aV #[.slice bn.a bn.len bn.cap,.I bi,.I bj,.I bk,.I bl,.I bm,.pointer none,.slice none 0 0,.slice none 0 0,.map (some bp.block)] 46 bq λbr bs=>And (bh bs) <| bg (some br) bs) ∧ (Nw (.map #[] 0) s λbt bu=>And (bh bu) <| Wc.c a bu λbv bw=>And (bh bw) <| aV #[.slice bv.a bv.len bv.cap,.I bi,.I bj,.I bk,.I bl,.I bm,.pointer none,.slice none 0 0,.slice none 0 0,.map (some bt.block)] 46 bw λbx bz=>And (bh bz) <| bg (some bx) bz)))
theorem Ku.o {a b c d e f g h}(i:Ku.v a b c d e f g h):Ku.c a b c d e f g h:=Wa Tryz.func92 (x:=Ku.h) (R0 i)
def Zj.h:Hn:=.q .o1 (.q .o9 .aL)
def Zj.v (a:R2)(b:Int)(c:Hp)(d:aN):Prop:=XQ.c a b 2 0 0 0 c λe f g=>d f g
theorem Zj.o {a b c d}(e:Zj.v a b c d):Zj.c a b c d:=Wa Tryz.func96 (x:=Zj.h) (R0 e)
def Zs.h:Hn:=.q .o1 (.q .o6 .l)
def Zs.v (a:R2)(b c:Int)(d:Hp)(e:aN):Prop:=Zk.c a d λf g=>Yy.c f b c g λh i=>e h i
theorem Zs.o {a b c d e}(f:Zs.v a b c d e):Zs.c a b c d e:=Wa Tryz.func97 (x:=Zs.h) (R0 f)
def Yb.h:Hn:=.q .o2 (.q (.k (.q .o4 (.c .aM (.q .o5 (.c .aM (.q .o10 .aK)))))) (.q .o4 (.q (.q .o2 .aK) (.q .o9 .aM))))
def Yb.v (a:R2)(b c d e f:Int)(g:Hp)(h:aN):Prop:=aV #[.I c,.I d,.I e,.I f] 142 g λi j=>WR.c a j λk l=>If (!k) (h 5 l) (YY.c a b l λm n=>If (!m) (h 1 n) (bE a 8 n λp=>Ix p.a p.len b 3 λq=>bA q 2 n λr=>And (IsIf r) <| If (!(nilI r)) (h 5 n) (aQ i 0 n λs=>aQ i 1 n λt=>aQ i 2 n λu=>aQ i 3 n λv=>YC.c a s t u v n λw x=>And (IsIf w) <| If (nilI w) (h 1 x) (bE a 8 x λz=>Ix z.a z.len b 3 λaa=>And (IsIf w) <| aR aa 2 (w) x λab=>h 0 ab))))
theorem Yb.o {a b c d e f g h}(i:Yb.v a b c d e f g h):Yb.c a b c d e f g h:=Wa Tryz.func98 (x:=Yb.h) (R0 i)
def Zb.h:Hn:=.q .o3 (.q (.k (.q .o4 (.c (.q .o4 .l) (.q .o5 (.c (.q .o4 .l) (.q .o10 (.c (.q .o4 .l) .l))))))) (.q (.o 17) (.q .o9 (.q (.reg (.tail 4 (RI.ops 4) [.op,.op])) .l))))
def Zb.v (a:R2)(b:Int)(c:Hp)(d:Bool->Int->Int->Int->Hp->Prop):Prop:=aV #[.I 0,.I 0] 156 c λe f=>WR.c a f λg h=>If (!g) (aR e 0 (.I 0) h λi=>aR e 1 (.I 0) i λj=>aQ e 0 j λk=>aQ e 1 j λl=>d false k l 5 j) (YY.c a b h λm n=>If (!m) (aR e 0 (.I 0) n λo=>aR e 1 (.I 0) o λp=>aQ e 0 p λq=>aQ e 1 p λr=>d false q r 1 p) (bE a 8 n λt=>Ix t.a t.len b 3 λu=>bA u 2 n λv=>And (IsIf v) <| If (nilI v) (aR e 0 (.I 0) n λw=>aR e 1 (.I 0) w λx=>aQ e 0 x λy=>aQ e 1 x λz=>d false y z 5 x) (bE a 8 n λab=>Ix ab.a ab.len b 3 λac=>bA ac 2 n λad=>ZD.c a b (ad) n λae af ag ah=>aV #[.I 0,.I 0] 156 ah λai aj=>aR ai 0 (.I af) aj λak=>aR ai 1 (.I ag) ak λal=>bE a 8 al λan=>Ix an.a an.len b 3 λao=>And (IsIf ae) <| aR ao 2 (ae) al λap=>And (IsIf ae) <| aQ ai 0 ap λaq=>aQ ai 1 ap λar=>aR e 0 (.I aq) ap λau=>aR e 1 (.I ar) au λav=>aQ e 0 av λaw=>aQ e 1 av λax=>d (nilI ae) aw ax 0 av)))
theorem Zb.o {a b c d}(e:Zb.v a b c d):Zb.c a b c d:=Wa Tryz.func99 (x:=Zb.h) (R0 e)
def YD.h:Hn:=.q .o2 (.q (.k (.q .o4 (.c .aL (.q .o3 .aJ)))) (.q .o1 (.q (.q .o6 (.k (.loop [(6,.I),(23,.I)] (.q .o1 (.q (.c .l .l) (.q (.k (.q .o3 (.q (.q .o3 (.c .l .l)) (.q .o10 .o4)))) .o2)))))) (.q .o3 .l))))
def YD.v (a:R2)(b:Int)(c:Hp)(d:Int->Int->Hp->Prop):Prop:=WR.c a c λe f=>If (!e) (d 0 5 f) (If (b<0) (d 0 1 f) (bE a 7 f λh=>W7 [bN,bN] (λi=>i 0 0 f) λj (k:Int) (l:Int) m=>If (l<((h.len:Nat):Int)) (Ix h.a h.len l 1 λn=>LdP n m λo=>If (k≥b) (d k 0 m) (bL (b-k) λp=>Xo.c o p m λq r s=>bL (k+q) λt=>bL (l+1) λu=>j t u s)) (d k 0 m)))
theorem YD.o {a b c d}(e:YD.v a b c d):YD.c a b c d:=Wa Tryz.func100 (x:=YD.h) (R0 e)
def Zy.h:Hn:=.q .o1 (.q (.q .o3 .aK) (.q .o1 (.q (.q .o6 (.k (.loop [(3,.I),(14,.I)] (.q .o1 (.q (.c .l .l) (.q (.k (.q .o3 .o5)) .o2)))))) .aL)))
def Zy.v (a:R2)(b:Hp)(c:aN):Prop:=WR.c a b λd e=>If (!d) (c 0 e) (bE a 7 e λg=>W7 [bN,bN] (λh=>h 0 0 e) λi (j:Int) (k:Int) l=>If (k<((g.len:Nat):Int)) (Ix g.a g.len k 1 λm=>LdP m l λn=>Yj.c n l λo p=>bL (j+o) λq=>bL (k+1) λr=>i q r p) (c j l))
theorem Zy.o {a b c}(d:Zy.v a b c):Zy.c a b c:=Wa Tryz.func101 (x:=Zy.h) (R0 d)
def Zz.h:Hn:=.q (.q .o3 (.c .l .l)) (.q .o6 (.k (.loop [(12,.I)] (.q .o1 (.q (.c .l .l) (.q (.k (.q .o3 .o2)) .o2))))))
def Zz.v (a:R2)(b:Hp)(c:aP):Prop:=WR.c a b λd e=>If (!d) (c e) (bE a 7 e λg=>W7 [bN] (λh=>h 0 e) λi (j:Int) k=>If (j<((g.len:Nat):Int)) (Ix g.a g.len j 1 λl=>LdP l k λm=>Y1.c m k λn=>bL (j+1) λo=>i o n) (c k))
theorem Zz.o {a b c}(d:Zz.v a b c):Zz.c a b c:=Wa Tryz.func102 (x:=Zz.h) (R0 d)
def Zh.h:Hn:=.q .o1 (.q .o5 .l)
def Zh.v (a:R2)(b:Addr)(c:Hp)(d:aO):Prop:=bM b c λe=>Nz 256<|bL (e.tdiv 256) λf=>Y7.c a f c λg h=>d g h
theorem Zh.o {a b c d}(e:Zh.v a b c d):Zh.c a b c d:=Wa Tryz.func112 (x:=Zh.h) (R0 e)
def QA.h:Hn:=.q .o2 (.q (.reg (.seq [.op,.op,.op,.op,.grd true 3 (RI.ops 3),.op,.grd true 4 (RI.ops 4),.op,.grd true 3 (RI.ops 3),.op,.grd true 3 (RI.ops 3),.op,.grd true 3 (RI.ops 3),.op,.grd true 3 (RI.ops 3),.op,.grd true 3 (RI.ops 3),.op,.grd true 3 (RI.ops 3),.op,.grd true 3 (RI.ops 3),.op,.grd true 3 (RI.ops 3),.op])) .l)
def QA.v (a b c d e:Int)(f:Hp)(g:aO):Prop:=aV #[.I a,.I b,.I c,.I d,.I e] 40 f λh i=>aQ h 0 i λj=>JnB (λk l=>JnB (λm n=>JnB (λo p=>JnB (λq r=>JnB (λs t=>JnB (λu v=>JnB (λw x=>JnB (λy z=>JnB (λaa ab=>JnB (λac ad=>g ac ad) λae=>If aa (aQ h 4 ab λaf=>ae (decide (af<=8)) ab) (ae false ab)) λag=>If y (aQ h 4 z λah=>ag (decide (ah≥0)) z) (ag false z)) λai=>If w (aQ h 3 x λaj=>ai (decide (aj<=65536)) x) (ai false x)) λak=>If u (aQ h 3 v λal=>ak (decide (al≥0)) v) (ak false v)) λam=>If s (aQ h 2 t λan=>am (decide (an<=4)) t) (am false t)) λao=>If q (aQ h 2 r λap=>ao (decide (ap≥1)) r) (ao false r)) λaq=>If o (aQ h 1 p λar=>aq (decide (ar<=4)) p) (aq false p)) λau=>If m (aQ h 1 n λav=>au (decide (av≥1)) n) (au false n)) λaw=>If k (aQ h 0 l λax=>Nz 16 <| aw ((ax.tmod 16)==0) l) (aw false l)) λay=>If (j≥32) (aQ h 0 i λaz=>ay (decide (az<=1024)) i) (ay false i)
theorem QA.o {a b c d e f g}(h:QA.v a b c d e f g):QA.c a b c d e f g:=Wa Tryz.func123 (x:=QA.h) (R0 h)
def YY.h:Hn:=.q .o1 (.q (.reg (.seq [.op,.op,.op,.grd true 7 (RI.ops 7),.op])) .l)
def YY.v (a:R2)(b:Int)(c:Hp)(d:aO):Prop:=JnB (λe f=>d e f) λg=>If (b≥0) (bE a 8 c λi=>g (decide (b<((i.len:Nat):Int))) c) (g false c)
theorem YY.o {a b c d}(e:YY.v a b c d):YY.c a b c d:=Wa Tryz.func131 (x:=YY.h) (R0 e)
def YC.h:Hn:=.q .o2 (.q (.q .o2 (.k (.q .o2 (.c (.q (.q (.reg (.seq [.op,.op,.op,.op,.grd false 3 (RI.ops 3)])) .aK) (.q (.reg (.held true [8] (.tk [0,1,2,3,4,5,6,7] (.all [(8,.tk [9,10,11,12,13] (.done))])))) (.q .o1 (.k (.q .o2 (.c (.q .o4 .l) (.q .o2 (.c (.q .o8 .l) .l)))))))) (.q .o2 (.c (.q .o5 .l) (.q .o2 (.c (.q .o3 .l) .l)))))))) .aM)
def YC.v (a:R2)(b c d e:Int)(f:Hp)(g:Value->Hp->Prop):Prop:=aV #[.I b,.I c,.I d,.I e] 142 f λh i=>aQ h 0 i λj=>If (j==0) (aQ h 1 i λk=>JnB (λl m=>If l (g (.nilIface) m) (Held m λn=>NilP a λo=>aT n o 0 λp=>aS n h 1 λq=>aS n h 2 λr=>Z0.c p q r m λs t u=>If (t==0) (g (.iface 260 (.agg #[.I s])) u) (If (t==4) (aQ h 1 u λv=>bL (v+256) λw=>bL (w-1) λx=>Nz 256<|bL (x.tdiv 256) λy=>g (.iface 262 (.agg #[.I y])) u) (g (.nilIface) u)))) λz=>If (k<1) (z true i) (aQ h 1 i λaa=>z (decide (aa>16384)) i)) (If (j==1) (aQ h 3 i λab=>g (.iface 264 (.agg #[.I ab])) i) (If (j==2) (g (.iface 266 (.agg #[])) i) (g (.nilIface) i)))
theorem YC.o {a b c d e f g}(h:YC.v a b c d e f g):YC.c a b c d e f g:=Wa Tryz.func132 (x:=YC.h) (R0 h)
def ZD.h:Hn:=.q .o2 (.q .o7 (.q (.reg (.held true [] (.tk [0,1,2,3,4,5] (.all [(6,.take 7 (.all [(8,.take 9 (.done))]))])))) (.sjn [] (.q .o1 (.k (.q .o3 (.c (.q .o2 (.q (.q (.reg (.held true [6] (.tk [0,1,2,3,4,5] (.all [(6,.tk [7,8,9,10,11] (.done))])))) (.q .o2 (.c (.q (.reg (.held true [17] (.tk [0,1,2,3,4,5,6,7,8,9,10,11,12] (.all [(13,.tk [14,15,16] (.all [(17,.done)]))])))) .l) .l))) (.q (.reg (.held true [6] (.tk [0,1,2,3,4,5] (.all [(6,.tk [7,8,9,10,11] (.done))])))) (.q .o8 .l)))) (.q .o3 (.c (.q .o2 (.sjn [] (.q (.oq 12) (.c (.q .o9 (.q .o2 (.c (.q .o6 (.q .o5 .l)) .l))) .l)) (.q .o5 .l))) (.q .o3 (.c (.q .o2 (.q (.q (.o 11) (.q .o3 (.c (.q .o6 (.q .o5 .l)) .l))) (.q .o5 .l))) (.q .o3 (.c (.q .o2 (.q (.q .o5 (.q .o2 (.c (.q .o4 .l) .l))) (.q .o5 .l))) (.q .o3 (.c (.q .o2 (.q .o8 (.q .o4 (.q (.reg (.tail 9 (RI.ops 9) [.op])) (.q (.reg (.held true [20] (.tk [0,1,2,3,4,5,6,7,8,9,10,11,12,13,14,15] (.all [(16,.tk [17,18,19] (.all [(20,.done)]))])))) .l))))) (.q .o3 (.c (.q .o2 (.q .o9 (.q (.q .o2 (.c (.q .o4 .l) .l)) (.q (.o 11) .l)))) (.q .o3 (.c (.q .o2 (.q .o9 .l)) (.q .o3 (.c (.q .o2 (.sjn [] (.q (.reg (.held true [8] (.tk [0,1,2,3,4,5,6,7] (.all [(8,.tk [9,10,11,12,13] (.done))])))) (.q .o3 (.c .o6 .l))) (.q .o9 (.sjn [] (.q .o5 (.c (.reg (.held true [13] (.tk [0,1,2,3,4,5,6,7,8] (.all [(9,.all [(10,.take 11 (.take 12 (.all [(13,.done)])))])])))) .l)) (.q .o6 .l))))) (.q .o3 (.c (.q .o2 (.q .o8 (.q .o10 (.q (.reg (.held true [5] (.take 0 (.take 1 (.take 2 (.take 4 (.all [(3,.all [(5,.done)])]))))))) (.q .o6 .l))))) (.q .o3 (.c (.q .o2 (.reg (.tail 10 (RI.ops 10) [.op]))) (.q .o3 (.c (.q .o2 (.q .o9 (.q .o6 .l))) .l)))))))))))))))))))))))) (.q .o3 .l))))
def ZD.v (a:R2)(b:Int)(c:Value)(d:Hp)(e:Value->Int->Int->Hp->Prop):Prop:=aV #[.I 0,.I 0] 156 d λf g=>bE a 8 g λi=>Ix i.a i.len b 3 λj=>Held g λk=>NilP a λl=>aT k l 7 λm=>ZE.c a b g λn o=>And (k o) <| Ix m.a m.len n 1 λp=>LdP p o λq=>And (k o) <| Jn [] (λr=>aR f 0 (.I 0) r λs=>aR f 1 (.I 0) s λt=>aQ f 0 t λu=>aQ f 1 t λv=>e (.nilIface) u v t) λw=>∃t52:Int,∃is:Bool,AsB c 260 [.I t52] [.I 0] is ∧ (If is (aV #[.I 0] 260 o λx y=>St1 x (.I t52) y λz=>Held z λaa=>NilP (some j) λab=>aU aa ab 0 λac=>aS aa x 0 λad=>Yo.c ac ad z λae af ag=>If (af==0) (Held ag λah=>NilP a λai=>aT ah ai 0 λaj=>aS ah x 0 λak=>Ix aj.a aj.len ak 3 λal=>aS ah al 0 λam=>aS ah x 0 λan=>Y6.c a ae am an ag λao ap aq ar=>And (ah ar) <| aR f 0 (.I ap) ar λau=>aR f 1 (.I aq) au λav=>aQ f 0 av λaw=>aQ f 1 av λax=>e (ao) aw ax av) (Held ag λay=>NilP (some j) λaz=>aU ay az 0 λa0=>aS ay x 0 λa1=>Yi.c a0 a1 ag λa2 a3 a4=>aQ x 0 a4 λa5=>aR f 0 (.I 0) a4 λa6=>aR f 1 (.I 0) a6 λa7=>aQ f 0 a7 λa8=>aQ f 1 a7 λa9=>e (.iface 270 (.agg #[.I a5,.I a2])) a8 a9 a7)) (∃t99:Int,∃t991:Int,∃is1:Bool,AsB c 270 [.I t99,.I t991] [.I 0,.I 0] is1 ∧
 (If is1 (aV #[.I 0,.I 0] 270 o λba bb=>aR ba 0 (.I t99) bb λbc=>aR ba 1 (.I t991) bc λbd=>Jn [] (λbe=>aQ ba 0 be λbf=>aQ ba 1 be λbg=>aR f 0 (.I 0) be λbh=>aR f 1 (.I 0) bh λbi=>aQ f 0 bi λbj=>aQ f 1 bi λbk=>e (.iface 275 (.agg #[.I bf,.I bg])) bj bk bi) λbl=>aQ ba 1 bd λbm=>bE a 0 bd λbo=>aQ ba 0 bd λbp=>Ix bo.a bo.len bp 3 λbq=>aQ bq 2 bd λbr=>If (bm==br) (aQ ba 0 bd λbs=>WA.c q bs bd λbt bu bv=>If (bu==0) (aQ ba 0 bv λbw=>YA.c a b bw bt bv λbx=>aR f 0 (.I 0) bx λbz=>aR f 1 (.I 0) bz λb0=>aQ f 0 b0 λb1=>aQ f 1 b0 λb2=>e (.iface 274 (.agg #[])) b1 b2 b0) (bl bv)) (bl bd)) (∃t135:Int,∃t1351:Int,∃is2:Bool,AsB c 275 [.I t135,.I t1351] [.I 0,.I 0] is2 ∧ (If is2 (aV #[.I 0,.I 0] 275 o λb3 b4=>aR b3 0 (.I t135) b4 λb5=>aR b3 1 (.I t1351) b5 λb6=>aQ b3 0 b6 λb7=>aQ b3 1 b6 λb8=>WE.c q b7 b8 b6 λb9 ca cb=>If (((b9.len:Nat):Int)>0) (aQ b3 0 cb λcc=>YA.c a b cc b9 cb λcd=>aR f 0 (.I 0) cd λce=>aR f 1 (.I 0) ce λcf=>aQ f 0 cf λcg=>aQ f 1 cf λch=>e (.iface 274 (.agg #[])) cg ch cf) (aQ b3 0 cb λci=>aQ b3 1 cb λcj=>aR f 0 (.I 0) cb λck=>aR f 1 (.I 0) ck λcl=>aQ f 0 cl λcm=>aQ f 1 cl λcn=>
 e (.iface 277 (.agg #[.I ci,.I cj])) cm cn cl)) (∃t162:Int,∃t1621:Int,∃is3:Bool,AsB c 277 [.I t162,.I t1621] [.I 0,.I 0] is3 ∧ (If is3 (aV #[.I 0,.I 0] 277 o λco cp=>aR co 0 (.I t162) cp λcq=>aR co 1 (.I t1621) cq λcr=>aQ co 0 cr λcs=>Yk.c q cs cr λct cu=>If (ct != 0) (aR f 0 (.I 0) cu λcv=>aR f 1 (.I ct) cv λcw=>aQ f 0 cw λcx=>aQ f 1 cw λcy=>e (.nilIface) cx cy cw) (aQ co 0 cu λcz=>aQ co 1 cu λc0=>aR f 0 (.I 0) cu λc1=>aR f 1 (.I 0) c1 λc2=>aQ f 0 c2 λc3=>aQ f 1 c2 λc4=>e (.iface 275 (.agg #[.I cz,.I c0])) c3 c4 c2)) (∃is4:Bool,AsB c 274 [] [] is4 ∧ (If is4 (aV #[] 274 o λc5 c6=>bE (some j) 1 c6 λc8=>Ix c8.a c8.len 0 2 λc9=>aQ c9 0 c6 λda=>aX c9 1 c6 λdb=>aV #[.I 0,.slice none 0 0] 130 c6 λdc dd=>aR dc 0 (.I da) dd λde=>aR dc 1 (.slice db.a db.len db.cap) de λdf=>NilP (some j) λdg=>aR dg 1 (.slice none 0 0) df λdh=>bF (some j) 0 dh λdj=>aQ dc 0 dh λdk=>aX dc 1 dh λdl=>SlcL dl 1 1 (dl.len:Nat) (dl.cap:Nat) λdm=>Yc.c dj dk dm dh λdn dp=>Held dp λdq=>aT dq dc 1 λdr=>Ix dr.a dr.len 0 1 λds=>LdH dq bN ds λ(dt:Int)=>NilP a λdu=>aT dq du 0 λdv=>aS dq dc 0 λdw=>Ix dv.a dv.len dw 3 λdx=>aS dq dx 0 λdy=>
 aS dq dc 0 λdz=>Y6.c a dt dy dz dp λd0 d1 d2 d3=>And (dq d3) <| aR f 0 (.I d1) d3 λd4=>aR f 1 (.I d2) d4 λd5=>aQ f 0 d5 λd6=>aQ f 1 d5 λd7=>e (d0) d6 d7 d5) (∃t217:Int,∃is5:Bool,AsB c 262 [.I t217] [.I 0] is5 ∧ (If is5 (aV #[.I 0] 262 o λd8 d9=>St1 d8 (.I t217) d9 λea=>aQ d8 0 ea λeb=>WU.c q eb 1 ea λec ed ee=>If (ed != 0) (aR f 0 (.I 0) ee λef=>aR f 1 (.I ed) ef λeg=>aQ f 0 eg λeh=>aQ f 1 eg λei=>e (.nilIface) eh ei eg) (bL (ec*256) λej=>aQ d8 0 ee λek=>bL (ek*256) λel=>Y6.c a ej el (-1) ee λem en eo ep=>aR f 0 (.I en) ep λeq=>aR f 1 (.I eo) eq λer=>aQ f 0 er λes=>aQ f 1 er λet=>e (em) es et er)) (∃t240:Int,∃is6:Bool,AsB c 264 [.I t240] [.I 0] is6 ∧ (If is6 (aV #[.I 0] 264 o λeu ev=>St1 eu (.I t240) ev λew=>aQ eu 0 ew λex=>ZA.c a b ex ew λey ez e0 e1=>aR f 0 (.I ez) e1 λe2=>aR f 1 (.I e0) e2 λe3=>aQ f 0 e3 λe4=>aQ f 1 e3 λe5=>e (ey) e4 e5 e3) (∃t250:Int,∃t2501:Int,∃is7:Bool,AsB c 282 [.I t250,.I t2501] [.I 0,.I 0] is7 ∧ (If is7 (aV #[.I 0,.I 0] 282 o λe6 e7=>aR e6 0 (.I t250) e7 λe8=>aR e6 1 (.I t2501) e8 λe9=>Jn [] (λfa=>bE (some j) 1 fa λfc=>SlcL fc 2 1 (fc.len:Nat) (fc.cap:Nat) λfd=>NilP (some j) λfe=>aR fe 1 (.slice fd.a fd.len fd.cap) fa λff=>Jn [] (λfg=>
 W5.c a b fg λfh fi=>aR f 0 (.I 0) fi λfj=>aR f 1 (.I 0) fj λfk=>aQ f 0 fk λfl=>aQ f 1 fk λfm=>e (fh) fl fm fk) λfn=>bF (some j) 0 ff λfp=>Yf.c fp ff λfq fr=>If fq (Held fr λfs=>NilP (some j) λft=>aT fs ft 1 λfu=>NilP (some j) λfv=>aU fs fv 0 λfw=>Xa.c fw fr λfx fy=>And (fs fy) <| App fu 2 32 130 [.I 0,.slice none 0 0] fx fy λfz f0=>And (fs f0) <| NilP (some j) λf1=>aR f1 1 (.slice fz.a fz.len fz.cap) f0 λf2=>fn f2) (fn fr)) λf3=>Held e9 λf4=>NilP (some j) λf5=>aU f4 f5 0 λf6=>aS f4 e6 0 λf7=>aS f4 e6 1 λf8=>YV.c f6 f7 f8 e9 λf9 ga gb=>If (((f9.len:Nat):Int)>0) (aQ e6 0 gb λgc=>YA.c a b gc f9 gb λgd=>f3 gd) (f3 gb)) (∃is8:Bool,AsB c 285 [] [] is8 ∧ (If is8 (aV #[] 285 o λge gf=>bE (some j) 1 gf λgh=>Ix gh.a gh.len 0 2 λgi=>aQ gi 0 gf λgj=>aX gi 1 gf λgk=>aV #[.I 0,.slice none 0 0] 130 gf λgl gm=>aR gl 0 (.I gj) gm λgn=>aR gl 1 (.slice gk.a gk.len gk.cap) gn λgo=>bE (some j) 1 go λgq=>SlcL gq 2 1 (gq.len:Nat) (gq.cap:Nat) λgr=>Wp.c gr go λgs gt=>NilP (some j) λgu=>aR gu 1 (.slice gs.a gs.len gs.cap) gt λgv=>Held gv λgw=>aS gw gl 0 λgx=>aT gw gl 1 λgy=>ZE.c a b gv λgz g0=>And (gw g0) <| ZB.c a gz gx gy g0 λg1=>
 W5.c a b g1 λg2 g3=>aR f 0 (.I 0) g3 λg4=>aR f 1 (.I 0) g4 λg5=>aQ f 0 g5 λg6=>aQ f 1 g5 λg7=>e (g2) g6 g7 g5) (∃t332:Int,∃t3321:Int,∃is9:Bool,AsB c 289 [.I t332,.I t3321] [.I 0,.I 0] is9 ∧ (If is9 (aV #[.I 0,.I 0] 289 o λg8 g9=>aR g8 0 (.I t332) g9 λha=>aR g8 1 (.I t3321) ha λhb=>bE a 7 hb λhd=>aQ g8 1 hb λhe=>Ix hd.a hd.len he 1 λhf=>LdP hf hb λhg=>aQ g8 0 hb λhh=>WT.c hg hh hb λhi hj=>w hj) (∃is10:Bool,AsB c 266 [] [] is10 ∧ (If is10 (aV #[] 266 o λhk hl=>bF (some j) 0 hl λhn=>XS.c hn hl λho hp=>NilP (some j) λhq=>aR hq 1 (.slice ho.a ho.len ho.cap) hp λhr=>W5.c a b hr λhs ht=>aR f 0 (.I 0) ht λhu=>aR f 1 (.I 0) hu λhv=>aQ f 0 hv λhw=>aQ f 1 hv λhx=>e (hs) hw hx hv) (w o))))))))))))))))))))))
theorem ZD.o {a b c d e}(f:ZD.v a b c d e):ZD.c a b c d e:=Wa Tryz.func133 (x:=ZD.h) (R0 f)
def ZE.h:Hn:=.q .o1 (.q .o8 .l)
def ZE.v (a:R2)(b:Int)(c:Hp)(d:aN):Prop:=bE a 7 c λf=>Nz ((f.len:Nat):Int) <| d (b.tmod ((f.len:Nat):Int)) c
theorem ZE.o {a b c d}(e:ZE.v a b c d):ZE.c a b c d:=Wa Tryz.func170 (x:=ZE.h) (R0 e)
def Y6.h:Hn:=.q .o2 (.q (.reg (.held true [12] (.tk [0,1,2,3,4,5,6,7,8,9] (.all [(10,.take 11 (.all [(12,.done)]))])))) (.q .o4 .l))
def Y6.v (a:R2)(b c d:Int)(e:Hp)(f:Value->Int->Int->Hp->Prop):Prop:=aV #[.I 0,.I 0] 156 e λg h=>Held h λi=>NilP a λj=>LdH i .m (j.add 9) λ(k:Option Nat)=>Yn.c a b h λl m=>And (i m) <| MSet .i64 (.ag 4) k b (b,c,d,l) m λn=>aR g 0 (.I b) n λo=>aR g 1 (.I 0) o λp=>aQ g 0 p λq=>aQ g 1 p λr=>f (.nilIface) q r p
theorem Y6.o {a b c d e f}(g:Y6.v a b c d e f):Y6.c a b c d e f:=Wa Tryz.func172 (x:=Y6.h) (R0 g)
def YA.h:Hn:=.reg (.held true [20] (.tk [0,1,2,3,4,5,6,7,8,9,10,11,12,13,14,15] (.all [(16,.all [(17,.take 18 (.take 19 (.all [(20,.done)])))])])))
def YA.v (a:R2)(b c:Int)(d:Sl)(e:Hp)(f:aP):Prop:=Held e λg=>NilP a λh=>aT g h 8 λi=>NilP a λj=>aT g j 8 λk=>Ix k.a k.len b 3 λl=>aT g l 1 λm=>aV #[.I c,.slice d.a d.len d.cap] 130 e λn o=>And (g o) <| App m 2 32 130 [.I 0,.slice none 0 0] ⟨some n,1,1⟩ o λp q=>And (g q) <| Ix i.a i.len b 3 λr=>aR r 1 (.slice p.a p.len p.cap) q λs=>f s
theorem YA.o {a b c d e f}(g:YA.v a b c d e f):YA.c a b c d e f:=Wa Tryz.func175 (x:=YA.h) (R0 g)
def ZA.h:Hn:=.q .o2 (.q (.o 12) (.q (.q .o2 (.c (.sjn [] (.q .o4 (.q .o2 (.c (.q (.o 16) (.q (.reg (.seq [.op,.op,.op,.grd true 2 [.op,.op],.op,.grd true 3 (RI.ops 3)])) (.c (.q .o3 .l) .l))) .l))) (.q .o3 .l)) .l)) (.q .o6 (.q (.q .o3 (.c (.q .o9 .l) .l)) (.q .o7 (.q .o8 .l))))))
def ZA.v (a:R2)(b c:Int)(d:Hp)(e:Value->Int->Int->Hp->Prop):Prop:=aV #[.I 0,.I 0] 156 d λf g=>bI a 9 g λi=>Lk .i64 (.ag 4) i c g λj=>aV #[.I 0,.I 0,.I 0,.I 0] 76 g λk l=>aR k 0 (.I ((j.getD (0,0,0,0)).1)) l λm=>aR k 1 (.I ((j.getD (0,0,0,0)).2.1)) m λn=>aR k 2 (.I ((j.getD (0,0,0,0)).2.2.1)) n λo=>aR k 3 (.I ((j.getD (0,0,0,0)).2.2.2)) o λp=>If (!j.isSome) (Jn [] (λq=>aR f 0 (.I 0) q λr=>aR f 1 (.I 8) r λs=>aQ f 0 s λt=>aQ f 1 s λu=>e (.nilIface) t u s) λv=>Yn.c a c p λw x=>If (w≥0) (bE a 7 x λz=>Ix z.a z.len w 1 λaa=>LdP aa x λab=>Y4.c ab c x λac ad ae af=>JnB (λag ah=>JnB (λai aj=>If ai (aR f 0 (.I 0) aj λak=>aR f 1 (.I 9) ak λal=>aQ f 0 al λam=>aQ f 1 al λan=>e (.nilIface) am an al) (v aj)) λao=>If ag (ao (ad==c) ah) (ao false ah)) λap=>If (ae==0) (ap (decide (ac≥0)) af) (ap false af)) (v x)) (bI a 9 p λar=>MDel .i64 (.ag 4) ar c p λau=>aQ k 2 au λav=>If (av<0) (Nz 256<|bL (c.tdiv 256) λaw=>aQ k 3 au λax=>aR f 0 (.I 0) au λay=>aR f 1 (.I 0) ay λaz=>aQ f 0 az λa0=>aQ f 1 az λa1=>e (.iface 289 (.agg #[.I aw,.I ax])) a0 a1 az) (aQ k 2 au λa2=>aV #[.I c] 3 au λa3 a4=>YA.c a b a2 ⟨some a3,1,1⟩ a4 λa5=>aQ k 2 a5 λa6=>aR f 0 (.I 0) a5 λa7=>
 aR f 1 (.I 0) a7 λa8=>aQ f 0 a8 λa9=>aQ f 1 a8 λba=>e (.iface 282 (.agg #[.I a6,.I c])) a9 ba a8))
theorem ZA.o {a b c d e}(f:ZA.v a b c d e):ZA.c a b c d e:=Wa Tryz.func180 (x:=ZA.h) (R0 f)
def W5.h:Hn:=.q .o1 (.q (.q .o10 .aK) (.q .o3 .l))
def W5.v (a:R2)(b:Int)(c:Hp)(d:Value->Hp->Prop):Prop:=bE a 8 c λf=>Ix f.a f.len b 3 λg=>aX g 1 c λh=>If (((h.len:Nat):Int)==0) (d (.nilIface) c) (d (.iface 285 (.agg #[])) c)
theorem W5.o {a b c d}(e:W5.v a b c d):W5.c a b c d:=Wa Tryz.func184 (x:=W5.h) (R0 e)
def ZB.h:Hn:=.q .o1 (.q .o7 (.q (.q .o4 (.k (.loop [(23,.I)] (.q .o1 (.q (.c .l .l) (.q (.k (.q .o3 (.q .o4 (.o 11)))) .o2)))))) (.sjn [] (.q (.oq 9) (.c (.q (.reg (.held true [] (.tk [0,1,2,3,4,5,6,7,8,9,10] (.all [(11,.tk [12,13,14,15,16] (.done))])))) (.q (.reg (.seq [.op,.op,.grd true 2 [.op,.op]])) (.c .l .l))) .l)) (.q .o3 (.k (.loop [(72,.I)] (.q .o1 (.q (.c .l .l) (.q (.k (.q .o5 (.q .o3 (.c (.reg (.tail 10 (RI.ops 10) [.op])) .l)))) .o2)))))))))
def ZB.v (a:R2)(b c:Int)(d:Sl)(e:Hp)(f:aP):Prop:=aV #[.I c,.slice d.a d.len d.cap] 130 e λg h=>NilP a λi=>aX i 7 h λj=>Mk ((j.len:Nat):Int) ((j.len:Nat):Int) 24 69 [.slice none 0 0] h λk l=>aX g 1 l λm=>W7 [bN] (λn=>n 0 l) λo (p:Int) q=>If (p<((m.len:Nat):Int)) (Ix m.a m.len p 1 λr=>bM r q λs=>Yn.c a s q λt u=>Ix k.a k.len t 1 λv=>LdS v u λw=>aV #[.I s] 3 u λx y=>App w 1 8 3 [.I 0] ⟨some x,1,1⟩ y λz aa=>Ix k.a k.len t 1 λab=>St1 ab (.slice z.a z.len z.cap) aa λac=>bL (p+1) λad=>o ad ac) (Jn [] (λae=>W7 [bN] (λaf=>af 0 ae) λag (ah:Int) ai=>If (ah<((k.len:Nat):Int)) (Ix k.a k.len ah 1 λaj=>LdS aj ai λak=>If (((ak.len:Nat):Int)>0) (bE a 7 ai λam=>Ix am.a am.len ah 1 λan=>LdP an ai λao=>aQ g 0 ai λap=>Wz.c ao ap ak ai λaq ar=>bL (ah+1) λau=>ag au ar) (bL (ah+1) λav=>ag av ai)) (f ai)) λaw=>Ix k.a k.len b 1 λax=>LdS ax q λay=>aX g 1 q λaz=>If (((ay.len:Nat):Int)==((az.len:Nat):Int)) (Held q λa0=>NilP a λa1=>aT a0 a1 7 λa2=>Ix a2.a a2.len b 1 λa3=>LdH a0 .p a3 λ(a4:R2)=>aS a0 g 0 λa5=>aT a0 g 1 λa6=>WK.c a4 a5 a6 q λa7 a8 a9=>And (a0 a9) <| JnB (λba bb=>If ba (f bb) (aw bb)) λbc=>If a7 (bc (a8==0) a9) (bc false a9)) (aw q))
theorem ZB.o {a b c d e f}(g:ZB.v a b c d e f):ZB.c a b c d e f:=Wa Tryz.func186 (x:=ZB.h) (R0 g)
end Go.Proofs
namespace Go.Ar
open Go Go.Vc Go.Proofs
def phV:Option Ph->Value
 | none=>.nilIface
 | some (.take k)=>.iface 260 (.agg #[.int .i64 (k:Int)])
 | some (.transfer k w)=>.iface 270 (.agg #[.int .i64 (k:Int),.int .i64 (w:Int)])
 | some (.central k w)=>.iface 275 (.agg #[.int .i64 (k:Int),.int .i64 (w:Int)])
 | some (.grow k w)=>.iface 277 (.agg #[.int .i64 (k:Int),.int .i64 (w:Int)])
 | some .fill=>.iface 274 (.agg #[])
 | some (.large m)=>.iface 262 (.agg #[.int .i64 (m:Int)])
 | some (.find x)=>.iface 264 (.agg #[.int .i64 x])
 | some (.put k x)=>.iface 282 (.agg #[.int .i64 (k:Int),.int .i64 x])
 | some .back=>.iface 285 (.agg #[])
 | some (.give s a)=>.iface 289 (.agg #[.int .i64 s,.int .i64 a])
 | some .drain=>.iface 266 (.agg #[])
theorem Wc7 (p:Option Ph):IsIf (phV p):=by
 cases p with
 | none=>exact .inl rfl
 | some p=>cases p<;>exact .inr ⟨_,_,rfl⟩
theorem WcK (p:Option Ph):nilI (phV p)=p.isNone:=by
 cases p with
 | none=>rfl
 | some p=>cases p<;>rfl
inductive LbH where
 | hd|tab|sp|arow|trow|live
 | ar (k:Nat)
 | ca (k:Nat)
 | hn (k:Nat)
 deriving DecidableEq
structure LayT where
 c:LayC
 h:Sl
structure LayH where
 p:Nat
 hs:Nat
 lm:Nat
 tab:Sl
 arow:Sl
 trow:Sl
 ys:List Lay
 ts:List LayT
def hdH (L:LayH)(c:Cf):List Value:=[.slice L.tab.a L.tab.len L.tab.cap,.int .i64 (c.pages:Int),.int .i64 (c.arenas:Int),.int .i64 (c.threads:Int),.int .i64 (c.budget:Int),.int .i64 (c.room:Int),
 .pointer (some ⟨L.hs,0,none⟩),.slice L.arow.a L.arow.len L.arow.cap,.slice L.trow.a L.trow.len L.trow.cap,.map (some L.lm)]
def thV (x:LayT×Th):List Value:=[.pointer (some ⟨x.1.c.p,0,none⟩),.slice x.1.h.a x.1.h.len x.1.h.cap,phV x.2.ph]
def trV (ts:List LayT)(ths:List Th):List Value:=(ts.zip ths).flatMap thV
theorem Ge:∀{ts:List LayT} {ths:List Th},ts.length=ths.length->(trV ts ths).length=ths.length*3
 | [],[],_=>rfl
 | x::ts,h::ths,e=>by
  have e1:trV (x::ts) (h::ths)=thV (x,h)++trV ts ths:=rfl;have a:(thV (x,h)).length=3:=rfl;rw[e1,zK,Ge (by simpa using e),a,zP];omega
 | [],_::_,e=>by simp at e
 | _::_,[],e=>by simp at e
theorem WeW:∀{ts:List LayT} {ths:List Th} {i:Nat} {x:LayT} {h:Th},ts[i]?=some x->ths[i]?=some h->∀{d:Nat},d<3->(trV ts ths)[3*i+d]?=(thV (x,h))[d]?
 | [],_,_,_,_,h1,_,_,_=>by simp at h1
 | _::_,[],_,_,_,_,h2,_,_=>by simp at h2
 | y::ts,g::ths,0,x,h,h1,h2,d,hd=>by
  have e1:trV (y::ts) (g::ths)=thV (y,g)++trV ts ths:=rfl;have a:(thV (y,g)).length=3:=rfl;simp at h1 h2;subst h1;subst h2;rw[e1,zd O];congr 1;omega
 | y::ts,g::ths,i+1,x,h,h1,h2,d,hd=>by
  have e1:trV (y::ts) (g::ths)=thV (y,g)++trV ts ths:=rfl;have a:(thV (y,g)).length=3:=rfl;rw[e1,zm O,a,show 3*(i+1)+d-3=3*i+d by omega];exact WeW (by simpa using h1) (by simpa using h2) hd
theorem WcL:∀{ts:List LayT} {ths:List Th} {i:Nat} {x:LayT} {h:Th},ts[i]?=some x->ths[i]?=some h->∀{d:Nat} {v:Value} {x':LayT} {h':Th},d<3->thV (x',h')=(thV (x,h)).set d v →
 (trV ts ths).set (3*i+d) v=trV (ts.set i x') (ths.set i h')
 | [],_,_,_,_,h1,_,_,_,_,_,_,_=>by simp at h1
 | _::_,[],_,_,_,_,h2,_,_,_,_,_,_=>by simp at h2
 | y::ts,g::ths,0,x,h,h1,h2,d,v,x',h',hd,e=>by
  have e1:trV (y::ts) (g::ths)=thV (y,g)++trV ts ths:=rfl;have a:trV ((y::ts).set 0 x') ((g::ths).set 0 h')=thV (x',h')++trV ts ths:=rfl;have b:(thV (y,g)).length=3:=rfl;simp at h1 h2;subst h1;subst h2;rw[e1,a,List.set_append_left _ _ O,e,show 3*0+d=d by omega]
 | y::ts,g::ths,i+1,x,h,h1,h2,d,v,x',h',hd,e=>by
  have e1:trV (y::ts) (g::ths)=thV (y,g)++trV ts ths:=rfl;have a:trV ((y::ts).set (i+1) x') ((g::ths).set (i+1) h')=thV (y,g)++trV (ts.set i x') (ths.set i h'):=rfl;have b:(thV (y,g)).length=3:=rfl;rw[e1,a,zFL _ _ O,b,show 3*(i+1)+d-3=3*i+d by omega];rw[WcL (by simpa using h1) (by simpa using h2) hd e]
def ArH (y:Option Lay)(a:Option AR):Hp->Rg->Prop:=λσ F=>match y,a with
 | some Y,some A=>AHY σ F Y A (traT A Y)
 | _,_=>True
def CaH (x:Option LayT)(h:Option Th)(tb:List Cls)(bud:Nat):Hp->Rg->Prop:=λσ F=>match x,h with
 | some x,some h=>CaY σ F x.c tb bud h.ls
 | _,_=>True
def HnH (x:Option LayT)(h:Option Th):Hp->Rg->Prop:=λσ F=>match x,h with
 | some x,some h=>BtR x.h h.hands σ F
 | _,_=>True
def CH (H:Hw)(L:LayH):LbH->Hp->Rg->Prop
 | .hd=>BlkR L.p (hdH L H.cf)
 | .tab=>SlR L.tab 3 (tabV H.tb)
 | .sp=>λσ F=>SpH3 σ F L.hs H.sp
 | .arow=>SlR L.arow 1 (ptrV (L.ys.map (·.p)))
 | .trow=>RowR L.trow 3 (trV L.ts H.ths)
 | .live=>MapR L.lm .i64 (.ag 4) H.live
 | .ar k=>ArH L.ys[k]? H.ars[k]?
 | .ca t=>CaH L.ts[t]? H.ths[t]? H.tb H.cf.budget
 | .hn t=>HnH L.ts[t]? H.ths[t]?
theorem ArH.loc (y:Option Lay)(a:Option AR):Lcl (ArH y a):=by
 intro σ σ' F G h hz hs;unfold ArH at *;split at h
 ·exact AHY.loc _ _ _ _ h hz hs
 ·trivial
theorem CaH.loc (x:Option LayT)(h:Option Th)(tb:List Cls)(bud:Nat):Lcl (CaH x h tb bud):=by
 intro σ σ' F G h hz hs;unfold CaH at *;split at h
 ·exact CaY.loc _ _ _ _ h hz hs
 ·trivial
theorem HnH.loc (x:Option LayT)(h:Option Th):Lcl (HnH x h):=by
 intro σ σ' F G h hz hs;unfold HnH at *;split at h
 ·exact BtR.loc _ _ _ _ _ _ h hz hs
 ·trivial
theorem CH.loc {H:Hw}{L:LayH}:∀i,Lcl (CH H L i)
 | .hd=>BlkR.loc _ _
 | .tab=>SlR.loc _ _ _
 | .sp=>SpH3.loc
 | .arow=>SlR.loc _ _ _
 | .trow=>RowR.loc _ _ _
 | .live=>MapR.loc _ _ _ _
 | .ar k=>ArH.loc _ _
 | .ca t=>CaH.loc _ _ _ _
 | .hn t=>HnH.loc _ _
structure HS (L:LayH) (H:Hw):Prop where
 ys:L.ys.length=H.ars.length
 hs:∀Y∈L.ys,Y.hs=L.hs
 ts:L.ts.length=H.ths.length
 a1:1<=H.ars.length
 a2:H.ars.length<=4
 t1:1<=H.ths.length
 t2:H.ths.length<=4
 tb:∀A∈H.ars,A.tb=H.tb
structure HH (σ:Hp) (F:Rg) (L:LayH) (H:Hw):Prop where
 s:HS L H
 sep:Sep (CH H L) σ F
 g:Gl σ
 gd:Gd σ
 o:Off F
 o2:¬F 1
variable {σ:Hp}{F:Rg}{L:LayH}{H:Hw}{t k:Nat}
theorem HH.keep0 (h:HH σ F L H){σ':Hp}(e:Ext0 σ σ'):HH σ' F L H:=⟨h.s,(Sep.loc CH.loc).keep0 h.sep e,h.g.keep0 e,h.gd.keep0 e,h.o,h.o2⟩
theorem HH.keep (h:HH σ F L H){σ':Hp}{T:Rg}(e:Ext T σ σ')(hT:∀b,b<σ.size->F b->¬T b)(hg:Off T)(hg2:¬T 1):HH σ' F L H:=⟨h.s,(Sep.loc CH.loc).keep h.sep e hT,h.g.keep e hg,h.gd.keep e hg2,h.o,h.o2⟩
theorem WhB {σ:Hp}(g:Gd σ):1<σ.size:=g.lt
theorem HH.mono (h:HH σ F L H){G:Rg}(hs:∀b,b<σ.size->F b->G b)(o:Off G)(o2:¬G 1):HH σ G L H:=⟨h.s,(Sep.loc CH.loc).mono h.sep hs,h.g,h.gd,o,o2⟩
theorem HH.oG (h:HH σ F L H):Off (Grow F σ):=h.o.grow h.g
theorem HH.oG2 (h:HH σ F L H):¬Grow F σ 1:=λa=>by
 rcases a with a|a
 ·exact h.o2 a
 ·have:=WhB h.gd;omega
theorem HH.sub (h:HH σ F L H){G:Rg}(hs:∀b,b<σ.size->F b->G b)(hg:∀b,G b->F b\/σ.size<=b):HH σ G L H:=
 h.mono hs (h.oG.sub hg) λa=>h.oG2 (hg _ a)
theorem HH.keepN {v v':Hp}{G T:Rg}{L0:LayH}{H0:Hw}(h0:HH σ F L0 H0)(h:HH v G L H)(e:Ext T v v')(hT:∀b,T b->σ.size<=b)(hG:∀b,b<v.size->G b->¬T b):HH v' G L H:=
 h.keep e hG (h0.oG.sub λb a=>.inr (hT b a)) λa=>h0.oG2 (.inr (hT _ a))
theorem HH.grown {σ':Hp}{R:Rg}{L':LayH}{H':Hw}(h:HH σ F L H)(h':HH σ' R L' H')(hr:∀b,b<σ'.size->R b->Grow F σ b):HH σ' (Grow F σ) L' H':=h'.mono hr h.oG h.oG2
theorem HH.cut (h:HH σ F L H):HH σ (Cut F σ) L H:=h.sub (λb a d=>⟨d,a⟩) λb a=>.inl a.1
theorem HH.step1 (h:HH σ F L H)(i:LbH):∃G:Rg,(∀b,G b->F b)/\CH H L i σ G/\(∀j,j≠i->∃D:Rg,(∀b,D b->F b)/\(∀b,D b->¬G b)/\CH H L j σ D) ∧
 ∀(σ':Hp) (H':Hw) (L':LayH) (G':Rg),HS L' H'->(∀j,j≠i->CH H' L' j=CH H L j)->Ext G σ σ'->(∀b,G' b->Grow G σ b)->CH H' L' i σ' G' →
  Ext F σ σ'/\HH σ' (λb=>F b/\b<σ.size/\¬G b\/G' b) L' H':=by
 obtain⟨G,p,u,hd,m⟩:=h.sep.stepD CH.loc i;refine⟨G,p,u,hd,λσ' H' L' G' y w e s x=>?_⟩;have r:=e.sub p;have d:∀b,(F b/\b<σ.size/\¬G b\/G' b)->Grow F σ b:=λb a=>by
  rcases a with a|a
  ·exact .inl a.1
  ·exact(s b a).imp (p b) id
 refine⟨r,y,m σ' (CH H' L') G' w e s x (CH.loc _),h.g.keep r h.o,h.gd.keep r h.o2,λb a=>(h.o.grow h.g) b (d b a),λa=>?_⟩;rcases d _ a with h1|h1
 ·exact h.o2 h1
 ·have:=WhB h.gd;omega
theorem _root_.Go.Vc.Sep.step2D {L:Type}{C:L->Hp->Rg->Prop}{σ:Hp}{F:Rg}(hC:∀i,Lcl (C i))(h:Sep C σ F)(i j:L)(hij:i≠j)(N:Rg)(hN:∀b,b<σ.size->F b->¬N b):∃G D:Rg,(∀b,G b->F b)/\(∀b,D b->F b)/\(∀b,G b->¬D b)/\C i σ G/\C j σ D/\(∀m,m≠i->m≠j->∃E:Rg,(∀b,E b->F b)/\(∀b,E b->¬(G b\/D b))/\C m σ E) ∧
 ∀(σ':Hp) (C':L->Hp->Rg->Prop) (G' D':Rg),(∀k,k≠i->k≠j->C' k=C k)->Ext (λb=>G b\/D b) σ σ'->(∀b,G' b->(G b\/D b)\/N b)->(∀b,D' b->(G b\/D b)\/N b)->(∀b,G' b->¬D' b)->C' i σ' G'->C' j σ' D'->(∀k,Lcl (C' k)) →
 Sep C' σ' λb=>F b/\b<σ.size/\¬(G b\/D b)\/G' b\/D' b:=by
 obtain⟨ρ,h⟩:=h
 let G:Rg:=λb=>F b/\ρ b=i
 let D:Rg:=λb=>F b/\ρ b=j
 refine⟨G,D,λb a=>a.1,λb a=>a.1,λb x w=>hij (x.2.symm.trans w.2),h i,h j,λm x w=>⟨λb=>F b/\ρ b=m,λb a=>a.1,λb a d=>d.elim (λu=>x (a.2.symm.trans u.2)) λu=>w (a.2.symm.trans u.2),h m⟩,λσ' C' G' D' J e H B hd z A y=>?_⟩
 open Classical in
 refine⟨λb=>if G' b then i else if D' b then j else ρ b,λk=>?_⟩
 by_cases hki:k=i
 ·subst hki;exact(y _).mono z λb _ a=>⟨.inr (.inl a),zB a⟩
 by_cases hkj:k=j
 ·subst hkj;exact(y _).mono A λb _ a=>⟨.inr (.inr a),by show(if G' b then i else if D' b then k else ρ b)=k;rw[zA λd=>hd b d a,zB a]⟩
 ·rw[J k hki hkj];refine hC k _ _ _ _ (h k) e.1 λb a g=>?_;have s:¬(G b\/D b):=by
   rintro(d|d)
   ·exact hki (g.2.symm.trans d.2)
   ·exact hkj (g.2.symm.trans d.2)
  have p:¬G' b:=λd=>(H b d).elim s (hN b a g.1);have r:¬D' b:=λd=>(B b d).elim s (hN b a g.1);exact⟨⟨.inl ⟨g.1,a,s⟩,by show(if G' b then i else if D' b then j else ρ b)=k;rw[zA p,zA r];exact g.2⟩,e.2 b a s⟩
theorem HH.step2N (h:HH σ F L H)(i j:LbH)(hij:i≠j)(N:Rg)(hN:∀b,b<σ.size->F b->¬N b)(oN:Off N)(oN2:¬N 1):∃G D:Rg,(∀b,G b->F b)/\(∀b,D b->F b)/\(∀b,G b->¬D b)/\CH H L i σ G/\CH H L j σ D/\(∀m,m≠i->m≠j->∃E:Rg,(∀b,E b->F b)/\(∀b,E b->¬(G b\/D b))/\CH H L m σ E) ∧
 ∀(σ':Hp) (H':Hw) (L':LayH) (G' D':Rg),HS L' H'->(∀m,m≠i->m≠j->CH H' L' m=CH H L m)->Ext (λb=>G b\/D b) σ σ'->(∀b,G' b->(G b\/D b)\/N b)->(∀b,D' b->(G b\/D b)\/N b)->(∀b,G' b->¬D' b)->CH H' L' i σ' G'->CH H' L' j σ' D' →
  Ext F σ σ'/\HH σ' (λb=>F b/\b<σ.size/\¬(G b\/D b)\/G' b\/D' b) L' H':=by
 obtain⟨G,D,s,u,hd,B,C,p,d⟩:=h.sep.step2D CH.loc i j hij N hN;refine⟨G,D,s,u,hd,B,C,p,λσ' H' L' G' D' J K e A z x P M=>?_⟩;have w:Ext F σ σ':=e.sub λb a=>a.elim (s b) (u b);have r:∀b,(F b/\b<σ.size/\¬(G b\/D b)\/G' b\/D' b)->F b\/N b:=λb a=>by
  rcases a with a|a|a
  ·exact .inl a.1
  ·exact(A b a).imp (λy=>y.elim (s b) (u b)) id
  ·exact(z b a).imp (λy=>y.elim (s b) (u b)) id
 refine⟨w,J,d σ' (CH H' L') G' D' K e A z x P M CH.loc,h.g.keep w h.o,h.gd.keep w h.o2,λb a=>(r b a).elim (h.o b) (oN b),λa=>?_⟩;exact(r _ a).elim h.o2 oN2
theorem HH.newN (h:HH σ F L H):Off (λb=>σ.size<=b)/\¬(σ.size<=1):=⟨h.oG.sub λb a=>.inr a,λa=>h.oG2 (.inr a)⟩
theorem HH.step2 (h:HH σ F L H)(i j:LbH)(hij:i≠j):∃G D:Rg,(∀b,G b->F b)/\(∀b,D b->F b)/\(∀b,G b->¬D b)/\CH H L i σ G/\CH H L j σ D/\(∀m,m≠i->m≠j->∃E:Rg,(∀b,E b->F b)/\(∀b,E b->¬(G b\/D b))/\CH H L m σ E) ∧
 ∀(σ':Hp) (H':Hw) (L':LayH) (G' D':Rg),HS L' H'->(∀m,m≠i->m≠j->CH H' L' m=CH H L m)->Ext (λb=>G b\/D b) σ σ'->(∀b,G' b->(G b\/D b)\/σ.size<=b)->(∀b,D' b->(G b\/D b)\/σ.size<=b)->(∀b,G' b->¬D' b)->CH H' L' i σ' G'->CH H' L' j σ' D' →
  Ext F σ σ'/\HH σ' (λb=>F b/\b<σ.size/\¬(G b\/D b)\/G' b\/D' b) L' H':=
 h.step2N i j hij _ (λb a _=>O) h.newN.1 h.newN.2
theorem HH.hd (h:HH σ F L H):Blk σ L.p (hdH L H.cf):=by obtain⟨G,b,a⟩:=h.sep.get .hd;exact a.2
theorem HH.tabS (h:HH σ F L H):SlR L.tab 3 (tabV H.tb) σ F:=by
 obtain⟨G,d,a⟩:=h.sep.get .tab;exact aH.mono a λb _ a=>d b a
theorem HH.tabL (h:HH σ F L H):L.tab.len=H.tb.length:=by
 have:=h.tabS.1;rw[KE]at this;omega
theorem HH.arowS (h:HH σ F L H):SlR L.arow 1 (ptrV (L.ys.map (·.p))) σ F:=by
 obtain⟨G,d,a⟩:=h.sep.get .arow;exact aH.mono a λb _ a=>d b a
theorem HH.arowL (h:HH σ F L H):L.arow.len=H.ars.length:=by
 have:=h.arowS.1;have:=h.s.ys;simp[ptrV]at *;omega
theorem HH.trowS (h:HH σ F L H):SlR L.trow 3 (trV L.ts H.ths) σ F:=by
 obtain⟨G,d,a⟩:=h.sep.get .trow;exact aH.mono (RowR.slR a) λb _ a=>d b a
theorem HH.trowL (h:HH σ F L H):L.trow.len=H.ths.length:=by
 have:=h.trowS.1;rw[Ge h.s.ts]at this;omega
theorem HH.liveM (h:HH σ F L H):MapL σ L.lm .i64 (.ag 4) H.live:=by obtain⟨G,b,a⟩:=h.sep.get .live;exact a.2
theorem HH.spS (h:HH σ F L H):SpH3 σ F L.hs H.sp:=by
 obtain⟨G,d,a⟩:=h.sep.get .sp;exact Lcl.mono SpH3.loc a λb _ a=>d b a
theorem HH.ar (h:HH σ F L H){A:AR}(hk:H.ars[k]?=some A):∃Y,L.ys[k]?=some Y/\Y.hs=L.hs/\AHY σ F Y A (traT A Y):=by
 have g:=(gSi.1 hk).1;have d:L.ys[k]?=some (L.ys[k]'(by rw[h.s.ys];exact g)):=gGe _;obtain⟨G,e,a⟩:=h.sep.get (.ar k);simp only[CH,hk,d,ArH]at a;exact⟨_,d,h.s.hs _ (zE d),a.mono λb _ a=>e b a⟩
theorem HH.rA (h:HH σ F L H){Y:Lay}(hy:L.ys[k]?=some Y){K:Option Addr->Prop}(hK:K (some ⟨Y.p,0,none⟩)):Ix L.arow.a L.arow.len (k:Int) 1 λa=>LdP a σ K:=
 Wh9 h.arowS (by simp[hy]) hK
theorem HH.th (h:HH σ F L H)(ht:t<H.ths.length):∃x g,L.ts[t]?=some x/\H.ths[t]?=some g:=⟨L.ts[t]'(by rw[h.s.ts];exact ht),H.ths[t],gGe _,gGe _⟩
theorem Ur {s:Sl}{ts:List LayT}{ths:List Th}(h:SlR s 3 (trV ts ths) σ F){x:LayT}{g:Th}(hx:ts[t]?=some x)(hg:ths[t]?=some g){d:Nat}(hd:d<3){v:Value}(hv:(thV (x,g))[d]?=some v):∃b o,s.a=some ⟨b,o,none⟩/\cell σ ⟨b,o+(3*t+d),none⟩=some v:=
 h.cell ((WeW hx hg hd).trans hv)
theorem Wnf {s:Sl}{ts:List LayT}{ths:List Th}(hs:SlR s 3 (trV ts ths) σ F)(hl:ts.length=ths.length){x:LayT}{g:Th}(hx:ts[t]?=some x)(hg:ths[t]?=some g){d:Nat}(hd:d<3){v:Value}(hv:(thV (x,g))[d]?=some v){K:Addr->Prop}
 (hK:∀b o,s.a=some ⟨b,o,none⟩->cell σ (Addr.add ⟨b,o+3*t,none⟩ d)=some v->K ⟨b,o+3*t,none⟩):Ix s.a s.len (t:Int) 3 K:=by
 have m:=(gSi.1 hg).1;have e:=hs.1;rw[Ge hl]at e;obtain⟨b,o,i,j⟩:=Ur hs hx hg hd hv;rw[i];refine ix O O ?_;rw[add_lit,show o+(t:Int).toNat*3=o+3*t by omega];exact hK b o i (by rw[add_lit,show o+3*t+d=o+(3*t+d) by omega];exact j)
theorem HH.tIx (h:HH σ F L H){x:LayT}{g:Th}(hx:L.ts[t]?=some x)(hg:H.ths[t]?=some g){d:Nat}(hd:d<3){v:Value}(hv:(thV (x,g))[d]?=some v){K:Addr->Prop}
 (hK:∀b o,cell σ (Addr.add ⟨b,o+3*t,none⟩ d)=some v->K ⟨b,o+3*t,none⟩):Ix L.trow.a L.trow.len (t:Int) 3 K:=
 Wnf h.trowS h.s.ts hx hg hd hv λb o _ e=>hK b o e
theorem HH.tS (h:HH σ F L H){x:LayT}{g:Th}(hx:L.ts[t]?=some x)(hg:H.ths[t]?=some g){K:Sl->Prop}(hK:K x.h):Ix L.trow.a L.trow.len (t:Int) 3 λa=>LdS (a.add 1) σ K:=
 h.tIx hx hg (d:=1) O rfl λb o e=>ldS e hK
theorem HH.tR (h:HH σ F L H){x:LayT}{g:Th}(hx:L.ts[t]?=some x)(hg:H.ths[t]?=some g){K:Value->Prop}(hK:K (phV g.ph)):Ix L.trow.a L.trow.len (t:Int) 3 λa=>LdR (a.add 2) σ K:=
 h.tIx hx hg (d:=2) O rfl λb o e=>⟨_,e,hK⟩
theorem HS.setT (h:HS L H){ths:List Th}{ts:List LayT}(e:ts.length=ths.length)(e2:ths.length=H.ths.length):HS {L with ts:=ts} {H with ths:=ths}:=⟨h.ys,h.hs,e,h.a1,h.a2,by rw[e2];exact h.t1,by rw[e2];exact h.t2,h.tb⟩
theorem HS.setA (h:HS L H){A:AR}{sp:Sp}(e:A.tb=H.tb):HS L {H.setA k A with sp:=sp}:=⟨by simp[Hw.setA,h.ys],h.hs,h.ts,by simp[Hw.setA,h.a1],by simp[Hw.setA,h.a2],h.t1,h.t2,λB a=>by
 rcases zEW a with h1|h1
 ·exact h.tb B h1
 ·subst h1;exact e⟩
theorem Wos {A:AR}:∀j,j≠LbH.ar k->CH (H.setA k A) L j=CH H L j:=by
 intro j hj;cases j<;>try rfl
 rename_i m;have a:m≠k:=λe=>hj (by rw[e]);simp only[CH,Hw.setA,zh (Ne.symm a)]
theorem Woa {sp:Sp}:∀j,j≠LbH.sp->CH {H with sp:=sp} L j=CH H L j:=by
 intro j hj;cases j<;>first|rfl|exact absurd rfl hj
theorem Wmp {l:List (Int×Bk)}:∀j,j≠LbH.live->CH {H with live:=l} L j=CH H L j:=by
 intro j hj;cases j<;>first|rfl|exact absurd rfl hj
theorem HH.stepA (h:HH σ F L H){A:AR}(hk:H.ars[k]?=some A):∃(Y:Lay) (G:Rg),L.ys[k]?=some Y/\Y.hs=L.hs/\(∀b,G b->F b)/\AHY σ G Y A (traT A Y)/\∀(σ':Hp) (A':AR) (G':Rg),A'.tb=A.tb->Ext G σ σ'->(∀b,G' b->Grow G σ b)->AHY σ' G' Y A' (traT A' Y) →
 Ext F σ σ'/\HH σ' (λb=>F b/\b<σ.size/\¬G b\/G' b) L (H.setA k A'):=by
 have g:=(gSi.1 hk).1;have d:L.ys[k]?=some (L.ys[k]'(by rw[h.s.ys];exact g)):=gGe _;generalize (L.ys[k]'(by rw[h.s.ys];exact g))=Y at d;obtain⟨G,r,j,_,a⟩:=h.step1 (.ar k);simp only[CH,hk,d,ArH]at j;refine⟨Y,G,d,h.s.hs _ (zE d),r,j,λσ' A' G' i e p m=>?_⟩;refine a σ' (H.setA k A') L G' (h.s.setA (sp:=H.sp) (i.trans (h.s.tb A (zE hk)))) Wos e p ?_;simp only[CH,Hw.setA,d,zM g,ArH];exact m
theorem HH.stepAS (h:HH σ F L H){A:AR}(hk:H.ars[k]?=some A):∃(Y:Lay) (G D:Rg),L.ys[k]?=some Y/\Y.hs=L.hs/\W2 σ G D Y A (traT A Y) H.sp/\∀(σ':Hp) (A':AR) (sp':Sp) (G' D':Rg),A'.tb=A.tb->Ext (Both G D) σ σ'->Fits σ G D G' D'->W2 σ' G' D' Y A' (traT A' Y) sp' →
 Ext F σ σ'/\HH σ' (Grow F σ) L {H.setA k A' with sp:=sp'}:=by
 have E:=(gSi.1 hk).1;have i:L.ys[k]?=some (L.ys[k]'(by rw[h.s.ys];exact E)):=gGe _;generalize (L.ys[k]'(by rw[h.s.ys];exact E))=Y at i;obtain⟨G,D,z,K,hd,M,C,_,u⟩:=h.step2 (.ar k) .sp (by intro e;cases e);simp only[CH,hk,i,ArH]at M;have C:SpH3 σ D L.hs H.sp:=C;have j:=h.s.hs _ (zE i);refine⟨Y,G,D,i,j,⟨M,by rw[j];exact C,hd,h.g,h.o.sub z,h.o.sub K⟩,λσ' A' sp' G' D' B e N y=>?_⟩;have w:∀b,G' b->(G b\/D b)\/σ.size<=b:=λb x=>(N.1 b x).imp .inl id;have r:∀b,D' b->(G b\/D b)\/σ.size<=b:=λb x=>.inl (.inr (N.2 b x));have Q:∀m,m≠LbH.ar k->m≠LbH.sp->CH {H.setA k A' with sp:=sp'} L m=CH H L m:=λm J S=>
  (Wos (H:={H with sp:=sp'}) (L:=L) (A:=A') m J).trans (Woa m S)
 have P:CH {H.setA k A' with sp:=sp'} L (.ar k) σ' G':=by
  simp only[CH,Hw.setA,i,zM E,ArH];exact y.a
 have R:CH {H.setA k A' with sp:=sp'} L .sp σ' D':=by
  show SpH3 σ' D' L.hs sp';rw[←j];exact y.s
 obtain⟨U,J⟩:=u σ' {H.setA k A' with sp:=sp'} L G' D' (h.s.setA (B.trans (h.s.tb A (zE hk)))) Q e w r y.d P R;refine⟨U,h.grown J λb x p=>?_⟩;rcases p with p|p|p
 ·exact .inl p.1
 ·exact(w b p).imp (λi=>i.elim (z b) (K b)) id
 ·exact(r b p).imp (λi=>i.elim (z b) (K b)) id
theorem HH.stepS (h:HH σ F L H):∃G:Rg,(∀b,G b->F b)/\SpH3 σ G L.hs H.sp/\Off G/\∀(σ':Hp) (sp':Sp),Ext G σ σ'->SpH3 σ' (Grow G σ) L.hs sp'->Ext F σ σ'/\HH σ' (Grow F σ) L {H with sp:=sp'}:=by
 obtain⟨G,g,j,_,d⟩:=h.step1 .sp;refine⟨G,g,j,h.o.sub g,λσ' sp' e hs=>?_⟩;obtain⟨p,m⟩:=d σ' {H with sp:=sp'} L (Grow G σ) ⟨h.s.ys,h.s.hs,h.s.ts,h.s.a1,h.s.a2,h.s.t1,h.s.t2,h.s.tb⟩ Woa e (λb i=>i) hs;exact⟨p,h.grown m λb i a=>by
  rcases a with a|a
  ·exact .inl a.1
  ·exact a.imp (g b) id⟩
theorem HH.stepL (h:HH σ F L H):F L.lm/\∀(σ':Hp) (l:List (Int×Bk)),QD σ σ' L.lm->MapL σ' L.lm .i64 (.ag 4) l->Ext F σ σ'/\HH σ' F L {H with live:=l}:=by
 obtain⟨G,i,a,_,e⟩:=h.step1 .live;have a:MapR L.lm .i64 (.ag 4) H.live σ G:=a;refine⟨i _ a.1,λσ' l p j=>?_⟩;obtain⟨r,m⟩:=e σ' {H with live:=l} L G ⟨h.s.ys,h.s.hs,h.s.ts,h.s.a1,h.s.a2,h.s.t1,h.s.t2,h.s.tb⟩ Wmp (p.ext.sub λb g=>by rw[g];exact a.1) (λb g=>.inl g) ⟨a.1,j⟩;exact⟨r,m.mono (λb _ d=>by
  rcases d with d|d
  ·exact d.1
  ·exact i b d) h.o h.o2⟩
theorem HH.stepC (h:HH σ F L H){x:LayT}{g:Th}(hx:L.ts[t]?=some x)(hg:H.ths[t]?=some g):∃G:Rg,(∀b,G b->F b)/\CaY σ G x.c H.tb H.cf.budget g.ls/\∀(σ':Hp) (ls:List Li) (Y':LayC) (G':Rg),Y'.p=x.c.p->Ext G σ σ'->(∀b,G' b->Grow G σ b)->CaY σ' G' Y' H.tb H.cf.budget ls →
 Ext F σ σ'/\HH σ' (λb=>F b/\b<σ.size/\¬G b\/G' b) {L with ts:=L.ts.set t {x with c:=Y'}} {H with ths:=H.ths.set t {g with ls:=ls}}:=by
 have i:=(gSi.1 hx).1;have a:=(gSi.1 hg).1;obtain⟨G,B,z,_,r⟩:=h.step1 (.ca t);simp only[CH,hx,hg,CaH]at z;refine⟨G,B,z,λσ' ls Y' G' E e y C=>?_⟩;have w:trV (L.ts.set t {x with c:=Y'}) (H.ths.set t {g with ls:=ls})=trV L.ts H.ths:=by
  have D:(trV L.ts H.ths).set (3*t+0) (.pointer (some ⟨x.c.p,0,none⟩))=trV L.ts H.ths:=Ql (WeW hx hg O);rw[←D];exact(WcL hx hg (d:=0) O (by simp[thV,E])).symm
 refine r σ' {H with ths:=H.ths.set t {g with ls:=ls}} {L with ts:=L.ts.set t {x with c:=Y'}} G' (h.s.setT (by simp[h.s.ts]) aA) (λj A=>?_) e y ?_
 ·cases j<;>try rfl
  ·simp only[CH,w]
  ·rename_i m;have u:m≠t:=λe=>A (by rw[e]);simp only[CH,zh (Ne.symm u)]
  ·rename_i m;by_cases u:m=t
   ·subst u;simp only[CH,zM i,zM a,hx,hg];rfl
   ·simp only[CH,zh (Ne.symm u)]
 ·simp only[CH,zM i,zM a,CaH];exact C
theorem HH.stepN (h:HH σ F L H){x:LayT}{g:Th}(hx:L.ts[t]?=some x)(hg:H.ths[t]?=some g)(N:Rg)(hN:∀b,b<σ.size->F b->¬N b)(oN:Off N)(oN2:¬N 1):∃G D:Rg,(∀b,G b->F b)/\(∀b,D b->F b)/\(∀b,G b->¬D b)/\BtR x.h g.hands σ G/\RowR L.trow 3 (trV L.ts H.ths) σ D/\(∃E:Rg,(∀b,E b->¬G b)/\(∀b,E b->¬D b)/\BlkR L.p (hdH L H.cf) σ E) ∧
 ∀(σ':Hp) (s:Sl) (bs:List Bt) (G' D':Rg),Ext (λb=>G b\/D b) σ σ'->(∀b,G' b->(G b\/D b)\/N b)->(∀b,D' b->(G b\/D b)\/N b)->(∀b,G' b->¬D' b)->BtR s bs σ' G'->RowR L.trow 3 ((trV L.ts H.ths).set (3*t+1) (.slice s.a s.len s.cap)) σ' D' →
  Ext F σ σ'/\HH σ' (λb=>F b/\b<σ.size/\¬(G b\/D b)\/G' b\/D' b) {L with ts:=L.ts.set t {x with h:=s}} {H with ths:=H.ths.set t {g with hands:=bs}}:=by
 have r:=(gSi.1 hx).1;have i:=(gSi.1 hg).1;obtain⟨G,D,S,W,hd,M,z,u,j⟩:=h.step2N (.hn t) .trow (by intro e;cases e) N hN oN oN2;simp only[CH,hx,hg,HnH]at M;have z:RowR L.trow 3 (trV L.ts H.ths) σ D:=z;obtain⟨E,_,P,C⟩:=u .hd (by intro e;cases e) (by intro e;cases e);refine⟨G,D,S,W,hd,M,z,⟨E,λb A hx=>P b A (.inl hx),λb A hx=>P b A (.inr hx),C⟩,λσ' s bs G' D' e y B K R Q=>?_⟩;have J:trV (L.ts.set t {x with h:=s}) (H.ths.set t {g with hands:=bs})=(trV L.ts H.ths).set (3*t+1) (.slice s.a s.len s.cap):=(WcL hx hg (d:=1) O (by simp[thV])).symm;refine j σ' {H with ths:=H.ths.set t {g with hands:=bs}} {L with ts:=L.ts.set t {x with h:=s}} G' D' (h.s.setT (by simp[h.s.ts]) aA) (λm V U=>?_) e y B K ?_ ?_
 ·cases m<;>first|rfl|exact absurd rfl U|skip
  ·rename_i m;by_cases w:m=t
   ·subst w;simp only[CH,zM r,zM i,hx,hg];rfl
   ·simp only[CH,zh (Ne.symm w)]
  ·rename_i m;have w:m≠t:=λe=>V (by rw[e]);simp only[CH,zh (Ne.symm w)]
 ·simp only[CH,zM r,zM i,HnH];exact R
 ·simp only[CH,J];exact Q
theorem HH.stepP (h:HH σ F L H){x:LayT}{g:Th}(hx:L.ts[t]?=some x)(hg:H.ths[t]?=some g)(p:Option Ph){K:aP}(hK:∀σ',Ext F σ σ'->HH σ' F L {H with ths:=H.ths.set t {g with ph:=p}}->K σ') :
 Ix L.trow.a L.trow.len (t:Int) 3 λa=>And (IsIf (phV p)) (St1 (a.add 2) (phV p) σ K):=by
 have C:=(gSi.1 hx).1;have i:=(gSi.1 hg).1;have A:=h.trowL;obtain⟨G,M,w,_,r⟩:=h.step1 .trow;have w:RowR L.trow 3 (trV L.ts H.ths) σ G:=w;have D:=Ge h.s.ts;obtain⟨b,y⟩:∃b,L.trow.a=some ⟨b,0,none⟩:=by
  rcases w.2 with⟨h0,_⟩|⟨b,_,_,ha,_⟩
  ·omega
  ·exact⟨b,ha⟩
 rw[y];refine ix O O ⟨Wc7 p,?_⟩;refine w.st (j:=3*t+2) O (λP u=>by rw[y]at u;cases u;rw[add_lit,add_lit];congr 1;omega) λσ' e E=>?_;have z:trV L.ts (H.ths.set t {g with ph:=p})=(trV L.ts H.ths).set (3*t+2) (phV p):=by
  have:=WcL hx hg (d:=2) (v:=phV p) (x':=x) (h':={g with ph:=p}) O (by simp[thV]);rw[this,Ql hx]
 obtain⟨N,J⟩:=r σ' {H with ths:=H.ths.set t {g with ph:=p}} L G (h.s.setT (ts:=L.ts) (by simp[h.s.ts]) aA) (λj B=>by
  cases j<;>first|rfl|exact absurd rfl B|skip
  ·rename_i m;by_cases hm:t=m
   ·subst hm;simp only[CH,zM i,hx,hg];rfl
   ·simp only[CH,zh hm]
  ·rename_i m;by_cases hm:t=m
   ·subst hm;simp only[CH,zM i,hx,hg];rfl
   ·simp only[CH,zh hm]) e (λb y=>.inl y) (by simp only[CH,z];exact E)
 exact hK σ' N (J.mono (λb _ hx=>by
  rcases hx with hx|hx
  ·exact hx.1
  ·exact M b hx) h.o h.o2)
end Go.Ar
namespace Go.Ar
open Go Go.Vc Go.Proofs
open Go.Bu (Zf QM Zu cnt)
variable {σ:Hp}{F H:Rg}{p hs:Nat}{A:AR}{sp:Sp}{Y:Lay}{T:Nat->Hp->Rg->Prop}
theorem WiP {s:Sl}{tb:List Cls}(h:SlR s 3 (tabV tb) σ F)(hl:tb.length<=40){R:Sl->Hp->Prop}(hR:∀s' σ',Ext0 σ σ'->SlR s' 3 (tabV tb) σ' (λb=>σ.size<=b)->R s' σ'):Wc.c s σ R:=by
 refine Wc.o ?_;unfold Wc.v;have a:=h.1;rw[KE]at a;exact GX h aB rfl Wfj aB O λs' σ' _ e d=>hR s' σ' e d.slR
end Go.Ar
namespace Go.Ar
open Go Go.Vc Go.Proofs
variable {σ:Hp}{F:Rg}{L:LayH}{H:Hw}{t k:Nat}
theorem Kz (h:HH σ F L H){R:aO}(hR:R true σ):WR.c (aW L.p) σ R:=by
 refine WR.o ?_;unfold WR.v;have b:=h.trowL;have a:=h.s.t1;refine JnB.intro (ifT rfl (nilP (h.hd.rS rfl ?_)));rw[zU aC];exact hR
theorem Wc5 (h:HH σ F L H)(x:Int){R:aO}(hR:R (decide (0<=x/\x<(H.ths.length:Int))) σ):YY.c (aW L.p) x σ R:=by
 refine YY.o ?_;unfold YY.v;have a:=h.trowL;refine JnB.intro (ifD (λb=>nilP (h.hd.rS rfl ?_)) λb=>?_)
 ·have:decide (x<((L.trow.len:Nat):Int))=decide (0<=x/\x<(H.ths.length:Int)):=by rw[decide_eq_decide,a];omega
  simp only[this];exact hR
 ·rw[zi O]at hR;exact hR
theorem Whm (h:HH σ F L H)(t:Nat){R:aN}(hR:R ((H.own t:Nat):Int) σ):ZE.c (aW L.p) (t:Int) σ R:=by
 refine ZE.o ?_;unfold ZE.v;have a:=h.arowL;have b:=h.s.a1;refine nilP (h.hd.rS rfl (nz aC ?_));have:((t:Int).tmod ((L.arow.len:Nat):Int))=((H.own t:Nat):Int):=by rw[Q8 O,a];unfold Hw.own;omega
 simp only[this];exact hR
theorem Wa4 (h:HH σ F L H)(x:Int)(hx9:x<=9223372036854775807){R:aN}(hR:∀σ',Ext0 σ σ'->R (YJ H.ars x) σ'):Yn.c (aW L.p) x σ R:=by
 refine Yn.o ?_;unfold Yn.v;refine nw (cs:=[.int .i64 x]) λv hz e Q=>Q.rI0 rfl ?_;have P:=h.keep0 e;by_cases hx:x<0
 ·have:=hR v e;unfold YJ at this;rw[zB hx]at this;exact ifDT hx this
 refine ifDF hx (nilP (P.hd.rS rfl ?_));have hl:=h.arowL;have S:=h.s.a2;refine Wk.o ?_;unfold Wk.v;refine ZT (a:=bN) (λ(z:Int) w=>∃i:Nat,z=(i:Int)/\i<=H.ars.length/\Ext0 σ w/\HH w F L H/\Blk w σ.size [.int .i64 x]/\∀j A,j<i->H.ars[j]?=some A->UN A (x/256)=false) (λz _=>H.ars.length-z.toNat) ⟨0,rfl,O,e,P,Q,λj A g=>O⟩ ?_;rintro z w ⟨i,rfl,Z,K,D,r,b⟩;refine ifD (λE=>?_) λJ=>?_
 ·simp only at E;have y:i<H.ars.length:=by omega
  have d:H.ars[i]?=some H.ars[i]:=gGe y;generalize H.ars[i]=A at d;obtain⟨Y,X,U,N⟩:=D.ar d;refine D.rA X (Gh (all := #[.pointer (some ⟨Y.p,0,none⟩),.pointer (some ⟨σ.size,0,none⟩)]) (by kernel_rfl) aA ?_);refine Zh.o ?_;unfold Zh.v;refine r.rI0 rfl (nz aB (ar (by rw[YL O];omega) (by rw[YL O];omega) ?_));rw[YL O];refine WnI N (x/256) (iff_ (λV=>?_) λW=>?_)
  ·have:YJ H.ars x=(i:Int):=by
    unfold YJ;rw[zA hx];have:H.ars.findIdx? (λA=>UN A (x/256))=some i:=by
     obtain⟨C,rfl⟩:=gSi.1 d;exact zBH.2 ⟨C,V,λj g=>by rw[b j _ g (gGe O)];simp⟩
    rw[this]
   have u:=hR w K;rw[this]at u;exact u
  ·exact arN (m:=i+1) O O ⟨⟨i+1,rfl,O,K,D,r,λj B g G=>by
    by_cases e:j=i
    ·subst e;rw[d]at G;cases G;exact W
    ·exact b j B O G⟩,O⟩
 ·have M:i=H.ars.length:=by simp only at J;omega
  subst M;have:YJ H.ars x = -1:=by
   unfold YJ;rw[zA hx];have:H.ars.findIdx? (λA=>UN A (x/256))=none:=by
    rw[zDT];intro A d;obtain⟨j,g⟩:=zN d;exact b j A (gSi.1 g).1 g
   rw[this]
  have u:=hR w K;rw[this]at u;exact u
theorem Wga (h:HH σ F L H){R:Int->Int->Int->Int->Int->Hp->Prop}(hR:∀σ',Ext0 σ σ'->R (H.cf.pages:Int) (H.cf.arenas:Int) (H.cf.threads:Int) (H.cf.budget:Int) (H.cf.room:Int) σ'):Zd.c (aW L.p) σ R:=by
 refine Zd.o ?_;unfold Zd.v;refine nw (cs:=[.int .i64 0,.int .i64 0,.int .i64 0,.int .i64 0,.int .i64 0]) λv u e d=>Kz (h.keep0 e) (ifF rfl ?_);have hd:=(h.keep0 e).hd;refine nilP (hd.rI2 rfl (hd.rI2 rfl (hd.rI2 rfl (hd.rI2 rfl (hd.rI2 rfl ?_)))));refine d.s1 aA λs o1 g=>g.s1 aA λr o2 m=>m.s1 aA λv3 o3 j=>j.s1 aA λw o4 b=>b.s1 aA λi o5 a=>?_;refine a.rI rfl (a.rI rfl (a.rI rfl (a.rI rfl (a.rI rfl (hR i ?_)))));exact((((e.only o1 (.inr (zC _))).only o2 (.inr (zC _))).only o3 (.inr (zC _))).only o4 (.inr (zC _))).only o5 (.inr (zC _))
theorem Wdz (h:HH σ F L H)(hl:H.tb.length<=40){R:Sl->Hp->Prop}(hR:∀s σ',Ext0 σ σ'->SlR s 3 (tabV H.tb) σ' (λb=>σ.size<=b)->R s σ'):YS.c (aW L.p) σ R:=by
 refine YS.o ?_;unfold YS.v;exact Kz h (ifF rfl (nilP (h.hd.rS rfl (WiP h.tabS hl hR))))
theorem WjH (h:HH σ F L H){R:Option Addr->Hp->Prop}(hR:R (some ⟨L.hs,0,none⟩) σ):Zk.c (aW L.p) σ R:=by
 refine Zk.o ?_;unfold Zk.v;exact Kz h (ifF rfl (nilP (h.hd.rP rfl hR)))
theorem Wje (h:HH σ F L H)(gc:Gc σ)(x v:Int)(hx:x<=9223372036854775807){R:aN}(hR:∀σ',Ext F σ σ'->HH σ' (Grow F σ) L {H with sp:=UT H.sp x v}->R (accE H.sp x) σ'):Zs.c (aW L.p) x v σ R:=by
 refine Zs.o ?_;unfold Zs.v;obtain⟨G,r,m,d,a⟩:=h.stepS;refine WjH h (Wkh m h.g gc x hx v λσ' e b=>?_);obtain⟨j,i⟩:=a σ' _ e b;exact hR σ' j i
theorem V8 (h:HH σ F L H)(ht:t<H.ths.length){R:Value->Hp->Prop}(hR:R (phV (retH H t)) σ):W5.c (aW L.p) (t:Int) σ R:=by
 refine W5.o ?_;unfold W5.v;obtain⟨x,g,d,a⟩:=h.th ht;refine nilP (h.hd.rS rfl (h.tS d a ?_));obtain⟨G,i,b⟩:=h.sep.get (.hn t);simp only[CH,d,a,HnH]at b;have e:=b.len;unfold retH at hR;rw[a]at hR;simp only at hR;by_cases h0:g.hands=[]
 ·rw[zB h0]at hR;exact ifT (by rw[e,h0];rfl) hR
 ·rw[zA h0]at hR;have:=zCG.2 h0;exact ifF (by simp only[zBC];omega) hR
theorem Wck (h:HH σ F L H)(x size cls:Int)(hx9:x<=9223372036854775807){R:Value->Int->Int->Hp->Prop}(hR:∀σ',Ext F σ σ'->HH σ' F L (VF H x size cls)->R .nilIface x 0 σ'):Y6.c (aW L.p) x size cls σ R:=by
 refine Y6.o ?_;unfold Y6.v;refine nw (cs:=[.int .i64 0,.int .i64 0]) λv K e a=>?_;have m:=h.cut.keep0 e;refine⟨λu=>Ext0 v u,Ext.refl _ _,nilP ⟨some L.lm,λu C=>by rw[add_lit,((m.keep0 C).hd).cell];rfl,?_⟩⟩;refine Wa4 m x hx9 λJ g=>⟨g,?_⟩;have y:=m.keep0 g;obtain⟨z,d⟩:=y.stepL;refine⟨L.lm,_,rfl,y.liveM,λj o2 i=>?_⟩;obtain⟨E,D⟩:=d j _ o2 i;have s:Blk j σ.size [.int .i64 0,.int .i64 0]:=Ws o2 (g.blk a id) (by have:=z.2;omega);refine s.s1 aA λv3 o3 B=>B.s1 aA λv4 o4 w=>w.rI rfl (w.rI rfl (hR v4 ?_ ?_))
 ·exact(((Ext0.to (e.trans g)).trans (E.sub λb a=>a.1)).only o3 (.inr (zC _))).only o4 (.inr (zC _))
 ·have r:Ext (· = σ.size) j v4:=o3.ext.trans o4.ext;have A:=h.keepN D r (λb a=>O) (λb _ a G=>by have:=a.2;omega);exact A.mono (λb _ a=>a.1) h.o h.o2
theorem G8 (h:HH σ F L H)(ht:t<H.ths.length)(k:Nat){s:Sl}{xs:List Int}{X:Rg}(hs:SlR s 1 (Wv xs) σ X)(hc:s.len<=s.cap)(hxs:xs≠[])(hX:∀b,b<σ.size->X b->¬F b)(oX:Off X)(oX2:¬X 1)(hlen:∀g,H.ths[t]?=some g->g.hands.length<=1000){R:aP}
 (hR:∀σ' ts',Ext F σ σ'->HH σ' (λb=>Grow F σ b\/X b) {L with ts:=ts'} (QP H t k xs)->R σ'):YA.c (aW L.p) (t:Int) (k:Int) s σ R:=by
 refine YA.o ?_;unfold YA.v;obtain⟨x,g,r,U⟩:=h.th ht;have htl:=Ge h.s.ts;have hrl:=h.trowL;have hlen:=hlen g U;obtain⟨G,D,hG,hD,hd,hB,hr,⟨E,hE1,hE2,hhd⟩,W⟩:=h.cut.stepN r U (λb=>σ.size<=b\/b<σ.size/\X b) (λb m hf hn=>by
  rcases hn with hn|hn
  ·omega
  ·exact hX b m hn.2 hf.1) (λb m=>m.elim (h.newN.1 b) λm=>oX b m.2) (λm=>m.elim h.newN.2 λm=>oX2 m.2)
 obtain⟨Y,Dn,A,M,J,hj,Q⟩:=hB;have B:∀u,Ext G σ u->Blk u L.p (hdH L H.cf):=λu z=>((BlkR.loc _ _).keep hhd z λb _ m r=>hE1 b m r).2;have P:∀u,Ext G σ u->RowR L.trow 3 (trV L.ts H.ths) u D:=λu z=>aI.keep hr z λb _ m r=>hd b r m;refine⟨λu=>Ext G σ u,Ext.refl _ _,nilP ⟨L.trow,λu z=>by rw[add_lit,(B u z).cell];rfl,nilP ⟨L.trow,λu z=>by rw[add_lit,(B u z).cell];rfl,?_⟩⟩⟩;refine Wnf (RowR.slR hr) h.s.ts r U (d:=1) O rfl λb o ha _=>⟨x.h,λu z=>?_,?_⟩
 ·obtain⟨b',o',aa,hc'⟩:=Ur (RowR.slR (P u z)) r U (d:=1) O rfl;rw[ha]at aa;cases aa;rw[add_lit,show o+3*t+1=o+(3*t+1) by omega];exact hc'
 refine nw (cs:=[.int .i64 (k:Int),.slice s.a s.len s.cap]) λv hz e m=>⟨Ext0.to e,?_⟩;have K:=(RowO.loc _ _ _).keep0 ((RowO.loc _ _ _).cut A) e;have S:=(BtO.loc _ _).keep0 ((BtO.loc _ _).cut M) e;have hs1:=aH.keep0 (aH.cut hs) e;have hpl:x.h.len=Y.length:=by have:=A.1;rw[Ky]at this;omega
 have hpg:Y.length=g.hands.length:=M.1;refine K.app (ys:=btV (k,s)) rfl rfl ?_ (λv hv=>Hu (l:=[(k,s)]) v (by simpa[btsV]using hv)) ?_ ?_ zBG λs' v2 hl2 e2 hr2=>?_
 ·intro j u z;rw[add_lit,zG,m.cell];exact z
 ·simp only;have:(x.h.len+1)*32<=1001*32:=zAF O O;omega
 ·simp only;omega
 have hs2:=e2.1;have eG:Ext G σ v2:=(Ext0.to e).trans (e2.sub λb m=>m.1.1);refine⟨eG,?_⟩;obtain⟨b0,V⟩:∃b,L.trow.a=some ⟨b,0,none⟩:=by
  rcases hr.2 with⟨h0,_⟩|⟨b,_,_,ha,_⟩
  ·omega
  ·exact⟨b,ha⟩
 rw[V];refine ix O O ?_;refine(P v2 eG).st (j:=3*t+1) O (λb' Z=>by rw[V]at Z;cases Z;rw[add_lit,add_lit];congr 1;omega) λσ' e3 hr3=>?_;have hs3:=e3.1;have e03:Ext (λb=>G b\/D b) σ σ':=(eG.sub λb m=>.inl m).trans (e3.sub λb m=>.inr m);have hr4:=(RowO.loc _ _ _).keep ((RowO.loc _ _ _).cut hr2) e3 λb _ m r=>by
  rcases m.1 with h1|h1
  ·exact hd b h1.1.1 r
  ·have:=(hD b r).2;omega
 have hB4:=(BtO.loc _ _).keep ((BtO.loc _ _).keep S e2 λb _ m r=>r.1.2 m.1) e3 λb _ m r=>hd b (J b m.1) r;have hs4:=aH.keep (aH.keep hs1 e2 λb m r w=>hX b r.2 r.1 (hG b w.1.1).1) e3 λb _ r w=>hX b r.2 r.1 (hD b w).1;have hBt:BtR s' (g.hands++[(k,xs)]) σ' (λb=>G b/\b<σ.size\/b<σ.size/\X b\/v.size<=b/\b<v2.size):=by
  refine⟨Y++[(k,s)],λb=>Dn b/\b<σ.size\/b<σ.size/\X b,?_,⟨by simp[hpg],λi p y N w=>?_⟩,λb m=>?_,hj.snoc M Q hs hxs (λb m r w=>hX b m w (hG b (J b r)).1) k,λy w=>?_⟩
  ·rw[U5];have:btsV [(k,s)]=btV (k,s):=by simp[btsV]
   rw[this];refine(RowO.loc _ _ _).mono hr4 λq _ C=>?_;rcases C.1 with h1|h1
   ·exact⟨.inl ⟨h1.1.1,h1.2⟩,λr=>by
     rcases r with r|r
     ·exact h1.1.2 r.1
     ·exact hX q r.1 r.2 (hG q h1.1.1).1⟩
   ·exact⟨.inr (.inr ⟨h1,C.2⟩),λr=>by
     rcases r with r|r<;>omega⟩
  ·rcases zAO i Y.length with hi|hi
   ·rw[zd hi]at N;rw[zd O]at w;obtain⟨a1,a2,a3⟩:=hB4.2 i p y N w;exact⟨a1,aH.mono a2 λq _ C=>.inl C,a3⟩
   ·rw[zm hi]at N;rw[zm O]at w;have hi0:i-Y.length=0:=by
     have:=(gSi.1 N).1;simp at this;omega
    rw[hi0]at N;rw[show i-g.hands.length=0 by omega]at w;simp at N w;subst N;subst w;exact⟨rfl,aH.mono hs4 λq _ C=>.inr ⟨C.2,C.1⟩,hc⟩
  ·rcases m with m|m
   ·exact .inl ⟨J b m.1,m.2⟩
   ·exact .inr (.inl m)
  ·rcases zR.1 w with h1|h1
   ·exact Q y h1
   ·rw[zW]at h1;subst h1;exact hxs
 obtain⟨eF,h4⟩:=W σ' s' (g.hands++[(k,xs)]) (λb=>G b/\b<σ.size\/b<σ.size/\X b\/v.size<=b/\b<v2.size) D e03 (λb m=>by
  rcases m with m|m|m
  ·exact .inl (.inl m.1)
  ·exact .inr (.inr m)
  ·exact .inr (.inl O)) (λb m=>.inl (.inr m)) (λb m r=>by
  have:=(hD b r).2;rcases m with m|m|m
  ·exact hd b m.1 r
  ·exact hX b m.1 m.2 (hD b r).1
  ·omega) hBt hr3
 refine hR σ' (L.ts.set t {x with h:=s'}) (eF.sub λb m=>m.1) ?_;have e5:QP H t k xs = {H with ths:=H.ths.set t {g with hands:=g.hands++[(k,xs)]}}:=by
  unfold QP Hw.setT
  congr 1
  exact K0 U
 rw[e5];refine h4.mono (λb _ m=>?_) (λb (m:Grow F σ b\/X b)=>m.elim (h.oG b) (oX b)) λ(m:Grow F σ _\/X _)=>m.elim h.oG2 oX2;rcases m with m | (m|m|m)|m
 ·exact .inl (.inl m.1.1)
 ·exact .inl (.inl (hG b m.1).1)
 ·exact .inr m.2
 ·exact .inl (.inr O)
 ·exact .inl (.inl (hD b m).1)
end Go.Ar
namespace Go.Ar
open Go Go.Vc Go.Proofs
variable {σ u u':Hp}{F B P:Rg}{L:LayH}{H H':Hw}{t k n:Nat}{A:AR}{Y:Lay}{x:LayT}{g:Th}{c:Cls}{l:Li}{cs:List Value}
structure HK (F:Rg) (σ:Hp) (B:Rg) (u:Hp) (P:Rg) (L:LayH) (H:Hw):Prop where
 h:HH u P L H
 e:Ext F σ u
 p:∀b,P b->(F b/\b<σ.size\/σ.size<=b)/\¬B b/\b<u.size
 b:∀b,B b->σ.size<=b/\b<u.size
 o:Off (λb=>σ.size<=b)/\¬σ.size<=1
theorem HK.start (h:HH σ F L H):HK F σ (λ_=>False) σ (Cut F σ) L H:=⟨h.cut,Ext.refl _ _,λb a=>⟨.inl ⟨a.1,a.2⟩,id,a.2⟩,λb a=>a.elim,h.newN⟩
theorem HK.box (K:HK F σ B u P L H)(e:Ext0 u u')(hz:u'.size=u.size+1):HK F σ (λb=>B b\/b=u.size) u' P L H:=
 ⟨K.h.keep0 e,K.e.trans (Ext0.to e),λb a=>⟨(K.p b a).1,λd=>d.elim (K.p b a).2.1 λg=>by have:=(K.p b a).2.2;omega,by have:=(K.p b a).2.2;omega⟩,λb a=>by
  have:=K.e.1;rcases a with a|a
  ·have:=K.b b a;omega
  ·omega,K.o⟩
theorem HK.fr (K:HK F σ B u P L H)(e:Ext0 u u'):HK F σ B u' P L H:=
 ⟨K.h.keep0 e,K.e.trans (Ext0.to e),λb a=>⟨(K.p b a).1,(K.p b a).2.1,by have:=(K.p b a).2.2;have:=e.1;omega⟩,λb a=>by have:=K.b b a;have:=e.1;omega,K.o⟩
theorem HK.own (K:HK F σ B u P L H)(o:QD u u' n)(hn:B n):HK F σ B u' P L H:=by
 have r:=K.b n hn;have s:=o.1;have e:Ext (· = n) u u':=o.ext;have g:∀b,b<u.size->P b->¬(b=n):=λb _ a j=>(K.p b a).2.1 (j▸hn);have d:Off (λb=>b=n)/\¬(1=n):=⟨K.o.1.sub λb m=>O,λm=>K.o.2 O⟩;exact⟨K.h.keep e g d.1 d.2,K.e.newT e λb (i:b=n)=>.inr O,λb a=>⟨(K.p b a).1,(K.p b a).2.1,by have:=(K.p b a).2.2;omega⟩,λb a=>by have:=K.b b a;omega,K.o⟩
theorem HK.keepB (K:HK F σ B u P L H)(e:Ext P u u')(hb:Blk u n cs)(hn:B n):Blk u' n cs:=e.blk hb λa=>(K.p n a).2.1 hn
theorem HK.toX (K:HK F σ B u P L H){Q:Rg}{L':LayH}(e:Ext P u u')(h:HH u' Q L' H')(hq:∀b,b<u'.size->Q b->P b\/u.size<=b\/(F b/\b<σ.size\/σ.size<=b)/\¬B b):HK F σ B u' (Cut Q u') L' H':=by
 have g:=e.1;have i:=K.e.1;refine⟨h.cut,K.e.newT e λb a=>(K.p b a).1.imp (λh=>h.1) id,λb a=>⟨?_,λd=>?_,a.2⟩,λb a=>by have:=K.b b a;omega,K.o⟩
 ·rcases hq b a.2 a.1 with h1|h1|h1
  ·exact(K.p b h1).1
  ·exact .inr O
  ·exact h1.1
 ·rcases hq b a.2 a.1 with h1|h1|h1
  ·exact(K.p b h1).2.1 d
  ·have:=K.b b d;omega
  ·exact h1.2 d
theorem HK.to (K:HK F σ B u P L H){Q:Rg}{L':LayH}(e:Ext P u u')(h:HH u' Q L' H')(hq:∀b,b<u'.size->Q b->P b\/u.size<=b):HK F σ B u' (Cut Q u') L' H':=K.toX e h λb d a=>(hq b d a).imp id .inl
theorem HK.fin (K:HK F σ B u P L H){L0:LayH}{H0:Hw}(h0:HH σ F L0 H0):HH u (Grow F σ) L H:=h0.grown K.h λb _ a=>(K.p b a).1.imp (λh=>h.1) id
def Fr (A' A:AR):Prop:=A'.tb=A.tb/\A'.room=A.room/\A'.tra=A.tra
theorem Fr.traT {A' A:AR}(h:Fr A' A)(Y:Lay):Go.Ar.traT A' Y=Go.Ar.traT A Y:=by
 funext k;unfold Go.Ar.traT;rw[h.1,h.2.1,h.2.2]
theorem WbH (A:AR)(k m:Int):Fr (YO A k m) A:=by
 unfold YO;split<;>exact⟨rfl,rfl,rfl⟩
theorem WfE (A:AR)(k:Int)(xs:List Int):Fr (Zg A k xs) A:=⟨(VC A k xs).1,(VC A k xs).2.1,(VC A k xs).2.2.1⟩
theorem WlJ (A:AR)(sp:Sp)(m a no:Nat):Fr (getA A sp m a no).2.1 A:=⟨(Gs A sp m a no).1,(Gs A sp m a no).2.2.2.1,(Gs A sp m a no).2.2.1⟩
theorem Wg8 (A:AR)(x:Int):Fr (QH A x) A:=by
 unfold QH;split<;>exact⟨rfl,rfl,rfl⟩
theorem Wjv (A:AR)(sp:Sp)(k:Int):Fr (growS A sp k).1 A:=by
 unfold growS;split
 ·split
  ·rename_i c ss h1 h2;have h:=WlJ A sp c.pages 1 (k.toNat+1);generalize getA A sp c.pages 1 (k.toNat+1)=r at h;obtain⟨o,A',a⟩:=r;cases o with
   | none=>exact h
   | some x=>
    simp only;split<;>exact h
  ·exact⟨rfl,rfl,rfl⟩
 ·exact⟨rfl,rfl,rfl⟩
theorem WfW (A:AR)(sp:Sp)(m a:Int):Fr (takeAS A sp m a).1 A:=by
 unfold takeAS;split
 ·have h:=WlJ A sp m.toNat a.toNat 41;generalize getA A sp m.toNat a.toNat 41=r at h;obtain⟨o,A',b⟩:=r;cases o<;>exact h
 ·exact⟨rfl,rfl,rfl⟩
theorem Wib (A:AR)(k:Int):(ZR A k).tb=A.tb:=by unfold ZR;split<;>rfl
theorem Wme (A:AR)(k:Int)(xs:List Int):(Q9 A k xs).tb=A.tb:=by unfold Q9;split<;>rfl
theorem HH.stepA' (h:HH σ F L H)(hk:H.ars[k]?=some A)(hy:L.ys[k]?=some Y):∃G:Rg,(∀b,G b->F b)/\AHY σ G Y A (traT A Y)/\∀(σ':Hp) (A':AR) (Q:Rg),A'.tb=A.tb->Ext G σ σ'->(∀b,Q b->G b\/σ.size<=b)->AHY σ' (λb=>Grow G σ b/\¬Q b) Y A' (traT A' Y) →
 Ext F σ σ'/\HH σ' (λb=>Grow F σ b/\¬Q b) L (H.setA k A'):=by
 obtain⟨Y',G,d,_,j,w,g⟩:=h.stepA hk;rw[hy]at d;cases d;refine⟨G,j,w,λσ' A' Q i e m u=>?_⟩;obtain⟨s,r⟩:=g σ' A' _ i e (λb a=>a.1) u;refine⟨s,r.mono (λb _ a=>?_) (h.oG.sub λb a=>a.1) λa=>h.oG2 a.1⟩;rcases a with a|a
 ·exact⟨.inl a.1,λp=>by
   rcases m b p with h2|h2
   ·exact a.2.2 h2
   ·have:=a.2.1;omega⟩
 ·exact⟨a.1.imp (j b) id,a.2⟩
theorem AHY.mono0 {T:Nat->Hp->Rg->Prop}{G Q:Rg}(h:AHY σ G Y A T)(hq:∀b,¬Q b):AHY σ (λb=>G b/\¬Q b) Y A T:=h.mono λb _ a=>⟨a,hq b⟩
theorem HH.stepA0 (h:HH σ F L H)(hk:H.ars[k]?=some A)(hy:L.ys[k]?=some Y):∃G:Rg,(∀b,G b->F b)/\AHY σ G Y A (traT A Y)/\∀(σ':Hp) (A':AR),A'.tb=A.tb->Ext G σ σ'->AHY σ' (Grow G σ) Y A' (traT A' Y) →
 Ext F σ σ'/\HH σ' (Grow F σ) L (H.setA k A'):=by
 obtain⟨G,j,r,a⟩:=h.stepA' hk hy;refine⟨G,j,r,λσ' A' g e p=>?_⟩;obtain⟨m,i⟩:=a σ' A' (λ_=>False) g e (λb d=>d.elim) (p.mono0 λ_=>id);exact⟨m,i.mono (λb _ d=>d.1) h.oG h.oG2⟩
theorem GR (h:HH σ F L H)(hk:H.ars[k]?=some A)(hy:L.ys[k]?=some Y)(c:Int){R:Sl->Int->Hp->Prop}
 (hR:∀s σ' (Q:Rg),Ext F σ σ'->(∀b,Q b->F b)->SlR s 1 (Wv (YK A c)) σ' Q->s.len<=s.cap->HH σ' (λb=>Grow F σ b/\¬Q b) L (H.setA k (ZR A c))->R s (Z7 A c) σ') :
 WA.c (aW Y.p) c σ R:=by
 obtain⟨G,m,x,g⟩:=h.stepA' hk hy;refine GQ x c λs σ' e i w d u=>?_;obtain⟨r,j⟩:=g σ' (ZR A c) (InB s) (Wib A c) e (λb a=>.inl (i b a)) (u.mono λb _ a=>⟨.inl a.1,a.2⟩);exact hR s σ' (InB s) r (λb a=>m b (i b a)) w d j
theorem Wa8 (h:HH σ F L H)(hk:H.ars[k]?=some A)(hy:L.ys[k]?=some Y)(c m:Int){R:Sl->Int->Hp->Prop}
 (hR:∀s σ' (Q:Rg),Ext F σ σ'->(∀b,Q b->σ.size<=b)->RowR s 1 (ints (Ys A c m)) σ' Q->HH σ' (λb=>Grow F σ b/\¬Q b) L (H.setA k (YO A c m))->R s (QF A c m) σ') :
 WE.c (aW Y.p) c m σ R:=by
 obtain⟨G,x,w,d⟩:=h.stepA' hk hy;refine Wbo w c m λs σ' e u r=>?_;have g:traT (YO A c m) Y=traT A Y:=(WbH A c m).traT Y;obtain⟨j,i⟩:=d σ' (YO A c m) (λb=>σ.size<=b) (WbH A c m).1 e (λb a=>.inr a) (by rw[g];exact r.mono λb _ a=>⟨.inl a.1,by have:=a.2;omega⟩);exact hR s σ' _ j (λb a=>a) u i
theorem Wbl (h:HH σ F L H)(hk:H.ars[k]?=some A)(hy:L.ys[k]?=some Y)(c:Int){sl:Sl}{xs:List Int}{X:Rg}(hs:SlR sl 1 (Wv xs) σ X)(hi:∀x∈xs,I63 x){R:Bool->Int->Hp->Prop}
 (hR:∀σ',Ext F σ σ'->HH σ' (Grow F σ) L (H.setA k (Q9 A c xs))->R (Vi A c xs) (HC A c xs) σ'):WK.c (aW Y.p) c sl σ R:=by
 obtain⟨G,j,i,a⟩:=h.stepA0 hk hy;refine Wcf i c hs hi λσ' e g=>?_;obtain⟨d,b⟩:=a σ' _ (Wme A c xs) e g;exact hR σ' d b
theorem Wcu (h:HH σ F L H)(hk:H.ars[k]?=some A)(hy:L.ys[k]?=some Y)(c:Int){sl:Sl}{xs:List Int}{X:Rg}(hs:SlR sl 1 (Wv xs) σ X)(hX:∀b,b<σ.size->X b->¬F b)(hi:∀x∈xs,I63 x)(hl:xs.length<=1000000)(hcap:sl.len<=sl.cap){R:aN}
 (hR:∀σ',Ext F σ σ'->HH σ' (Grow F σ) L (H.setA k (Zg A c xs))->R (QW A c xs) σ'):Wz.c (aW Y.p) c sl σ R:=by
 obtain⟨G,j,w,a⟩:=h.stepA0 hk hy;refine GG w c hi hl hcap (.inl ⟨X,hs,λb i r u=>hX b i r (j b u)⟩) λσ' e s=>?_;have d:traT (Zg A c xs) Y=traT A Y:=(WfE A c xs).traT Y;obtain⟨m,g⟩:=a σ' _ (WfE A c xs).1 e (by rw[d];exact s);exact hR σ' m g
theorem Wcj (h:HH σ F L H)(hk:H.ars[k]?=some A)(hy:L.ys[k]?=some Y)(x:Int)(hf:∀r∈A.runs,r.1<=1000000){R:aN}
 (hR:∀σ',Ext F σ σ'->HH σ' (Grow F σ) L (H.setA k (QH A x))->R (KR A x) σ'):WT.c (aW Y.p) x σ R:=by
 obtain⟨G,m,j,a⟩:=h.stepA0 hk hy;refine Wdo j x hf λσ' e i=>?_;have b:traT (QH A x) Y=traT A Y:=(Wg8 A x).traT Y;obtain⟨g,d⟩:=a σ' _ (Wg8 A x).1 e (by rw[b];exact i);exact hR σ' g d
theorem Wi3 (h:HH σ F L H)(hk:H.ars[k]?=some A)(hy:L.ys[k]?=some Y)(c:Int){R:aN}
 (hR:∀σ',Ext F σ σ'->HH σ' (Grow F σ) L {H.setA k (growS A H.sp c).1 with sp:=(growS A H.sp c).2}->R (KO A H.sp c) σ'):Yk.c (aW Y.p) c σ R:=by
 obtain⟨Y',G,D,a,_,m,b⟩:=h.stepAS hk;rw[hy]at a;cases a;refine Wkz m c λσ' G' D' g e r=>?_;have d:traT (growS A H.sp c).1 Y=traT A Y:=(Wjv A H.sp c).traT Y;obtain⟨j,i⟩:=b σ' _ _ G' D' (Wjv A H.sp c).1 e g (by rw[d];exact r);exact hR σ' j i
theorem Wbh (h:HH σ F L H)(hk:H.ars[k]?=some A)(hy:L.ys[k]?=some Y)(m a:Int){R:Int->Int->Hp->Prop}
 (hR:∀σ',Ext F σ σ'->HH σ' (Grow F σ) L {H.setA k (takeAS A H.sp m a).1 with sp:=(takeAS A H.sp m a).2}->R ((Z5 A H.sp m a:Nat):Int) (Qz A H.sp m a) σ'):WU.c (aW Y.p) m a σ R:=by
 obtain⟨Y',G,D,b,_,s,d⟩:=h.stepAS hk;rw[hy]at b;cases b;refine Wca s m a λσ' G' D' i e u=>?_;have g:traT (takeAS A H.sp m a).1 Y=traT A Y:=(WfW A H.sp m a).traT Y;obtain⟨r,j⟩:=d σ' _ _ G' D' (WfW A H.sp m a).1 e i (by rw[g];exact u);exact hR σ' r j
def Hw.setLs (H:Hw)(t:Nat)(g:Th)(ls:List Li):Hw:={H with ths:=H.ths.set t {g with ls:=ls}}
theorem HH.stepC' (h:HH σ F L H)(hx:L.ts[t]?=some x)(hg:H.ths[t]?=some g):∃G:Rg,(∀b,G b->F b)/\CaY σ G x.c H.tb H.cf.budget g.ls/\∀(σ':Hp) (ls:List Li) (Y':LayC) (Q:Rg),Y'.p=x.c.p->Ext G σ σ'->(∀b,Q b->σ.size<=b)->CaY σ' (λb=>Grow G σ b/\¬Q b) Y' H.tb H.cf.budget ls →
 Ext F σ σ'/\HH σ' (λb=>Grow F σ b/\¬Q b) {L with ts:=L.ts.set t {x with c:=Y'}} (H.setLs t g ls):=by
 obtain⟨G,i,s,d⟩:=h.stepC hx hg;refine⟨G,i,s,λσ' ls Y' Q w e j y=>?_⟩;obtain⟨u,r⟩:=d σ' ls Y' _ w e (λb a=>a.1) y;refine⟨u,r.mono (λb _ a=>?_) (h.oG.sub λb a=>a.1) λa=>h.oG2 a.1⟩;rcases a with a|a
 ·exact⟨.inl a.1,λm=>by have:=a.2.1;have:=j b m;omega⟩
 ·exact⟨a.1.imp (i b) id,a.2⟩
theorem HH.stepC0 (h:HH σ F L H)(hx:L.ts[t]?=some x)(hg:H.ths[t]?=some g):∃G:Rg,(∀b,G b->F b)/\CaY σ G x.c H.tb H.cf.budget g.ls/\∀(σ':Hp) (ls:List Li) (Y':LayC),Y'.p=x.c.p->Ext G σ σ'->CaY σ' (Grow G σ) Y' H.tb H.cf.budget ls →
 Ext F σ σ'/\HH σ' (Grow F σ) {L with ts:=L.ts.set t {x with c:=Y'}} (H.setLs t g ls):=by
 obtain⟨G,j,m,d⟩:=h.stepC' hx hg;refine⟨G,j,m,λσ' ls Y' s e u=>?_⟩;obtain⟨r,i⟩:=d σ' ls Y' (λ_=>False) s e (λb a=>a.elim) (u.mono λb _ a=>⟨a,id⟩);exact⟨r,i.mono (λb _ a=>a.1) h.oG h.oG2⟩
theorem WkQ (h:HH σ F L H)(hx:L.ts[t]?=some x)(hg:H.ths[t]?=some g)(hc:H.tb[k]?=some c)(hl:g.ls[k]?=some l){R:Int->Int->Hp->Prop}
 (hR:∀σ' ts',Ext F σ σ'->HH σ' (Grow F σ) {L with ts:=ts'} (H.setLs t g (g.ls.set k (Kb c l).2))->R ((Kb c l).1.getD 0) (if(Kb c l).1.isSome then 0 else 4) σ'):Yo.c (aW x.c.p) (k:Int) σ R:=by
 obtain⟨G,r,d,a⟩:=h.stepC0 hx hg;refine Take_ok d hc hl λσ' Y' e j m=>?_;obtain⟨i,b⟩:=a σ' _ Y' j e m;exact hR σ' _ i b
theorem Wk1 (h:HH σ F L H)(hx:L.ts[t]?=some x)(hg:H.ths[t]?=some g)(hc:H.tb[k]?=some c)(hl:g.ls[k]?=some l){R:Int->Int->Hp->Prop}
 (hR:∀σ' ts',Ext F σ σ'->HH σ' (Grow F σ) {L with ts:=ts'} H->R ((Wa7 c l:Nat):Int) 0 σ'):Yi.c (aW x.c.p) (k:Int) σ R:=by
 obtain⟨G,s,i,a⟩:=h.stepC0 hx hg;refine Wl6 i hc hl λσ' Y' e m r=>?_;obtain⟨j,b⟩:=a σ' _ Y' m e r;have d:H.setLs t g g.ls=H:=by
  unfold Hw.setLs;rw[Ql hg]
 rw[d]at b;exact hR σ' _ j b
theorem Wj7 (h:HH σ F L H)(hx:L.ts[t]?=some x)(hg:H.ths[t]?=some g)(hc:H.tb[k]?=some c)(hl:g.ls[k]?=some l){sl:Sl}{xs:List Int}{X:Rg}(hs:SlR sl 1 (Wv xs) σ X)(hX:∀q,X q->¬F q)(hfit:l.os.length+xs.length<=256){R:aN}
 (hR:∀σ' ts',Ext F σ σ'->HH σ' (Grow F σ) {L with ts:=ts'} (H.setLs t g (g.ls.set k (addL xs.reverse l)))->R 0 σ'):Yc.c (aW x.c.p) (k:Int) sl σ R:=by
 obtain⟨G,i,j,a⟩:=h.stepC0 hx hg;refine Wmt j hc hl hs (λq b hg=>hX q b (i q hg)) hfit λσ' Y' e r s=>?_;obtain⟨m,d⟩:=a σ' _ Y' r e s;exact hR σ' _ m d
theorem Wnw (h:HH σ F L H)(hx:L.ts[t]?=some x)(hg:H.ths[t]?=some g)(hc:H.tb[k]?=some c)(hl:g.ls[k]?=some l)(y:Int){R:Sl->Int->Hp->Prop}
 (hR:∀σ' ts' s e (Q:Rg),Ext F σ σ'->(∀q,Q q->σ.size<=q)->RowR s 1 (Wv (putL c y l).1) σ' Q->HH σ' (λb=>Grow F σ b/\¬Q b) {L with ts:=ts'} (H.setLs t g (g.ls.set k (putL c y l).2))->R s e σ'):YV.c (aW x.c.p) (k:Int) y σ R:=by
 obtain⟨G,A,m,a⟩:=h.stepC' hx hg;refine Wn6 m hc hl y λσ' Y' s i Q e u _ d z w=>?_;obtain⟨r,j⟩:=a σ' _ Y' Q u e d w;exact hR σ' _ s i Q r d z j
theorem Wlm (h:HH σ F L H)(hx:L.ts[t]?=some x)(hg:H.ths[t]?=some g){R:aO}(hR:∀σ',Ext0 σ σ'->R (decide (H.cf.budget<Qt H.tb g.ls)) σ'):Yf.c (aW x.c.p) σ R:=by
 obtain⟨G,d,b,a⟩:=h.stepC0 hx hg;exact WmN b hR
theorem WiL (hso:HP)(h:HH σ F L H)(hx:L.ts[t]?=some x)(hg:H.ths[t]?=some g){R:Sl->Hp->Prop}
 (hR:∀σ' s (Q:Rg),Ext F σ σ'->(∀q,Q q->σ.size<=q)->BtR s (Ka ZX H.tb g.ls) σ' Q->HH σ' (λb=>Grow F σ b/\¬Q b) L (H.setLs t g (Q6 ZX H.tb g.ls))->R s σ'):XS.c (aW x.c.p) σ R:=by
 obtain⟨G,w,j,a⟩:=h.stepC' hx hg;refine Wkk hso j λσ' s Q e d r u=>?_;obtain⟨m,i⟩:=a σ' _ x.c Q rfl e d r;rw[show L.ts.set t {x with c:=x.c}=L.ts from Ql hx]at i;exact hR σ' s Q m d u i
theorem Wd4 (hso:HP)(h:HH σ F L H)(hx:L.ts[t]?=some x)(hg:H.ths[t]?=some g){R:Sl->Hp->Prop}
 (hR:∀σ' s (Q:Rg),Ext F σ σ'->(∀q,Q q->σ.size<=q)->BtR s (Ka KK H.tb g.ls) σ' Q->HH σ' (λb=>Grow F σ b/\¬Q b) L (H.setLs t g (Q6 KK H.tb g.ls))->R s σ'):Xa.c (aW x.c.p) σ R:=by
 obtain⟨G,w,j,a⟩:=h.stepC' hx hg;refine Wd8 hso j λσ' s Q e d r u=>?_;obtain⟨m,i⟩:=a σ' _ x.c Q rfl e d r;rw[show L.ts.set t {x with c:=x.c}=L.ts from Ql hx]at i;exact hR σ' s Q m d u i
def AtH (S:aP)(L:LayH)(tb:List Cls):Prop:=∀m,S m->∃(P:Rg) (ts:List LayT) (H:Hw),HH m P {L with ts:=ts} H/\H.tb=tb
theorem AtH.tab {S:aP}{tb:List Cls}(hS:AtH S L tb){K:Sl->Prop}(hK:K L.tab):LdH S .s (Addr.add ⟨L.p,0,none⟩ 0) K:=⟨L.tab,λm a=>by obtain⟨_,_,_,h,_⟩:=hS m a;rw[add_lit,h.hd.cell];rfl,hK⟩
theorem AtH.arow {S:aP}{tb:List Cls}(hS:AtH S L tb){K:Sl->Prop}(hK:K L.arow):LdH S .s (Addr.add ⟨L.p,0,none⟩ 7) K:=⟨L.arow,λm a=>by obtain⟨_,_,_,h,_⟩:=hS m a;rw[add_lit,h.hd.cell];rfl,hK⟩
theorem AtH.rA {S:aP}{tb:List Cls}(hS:AtH S L tb)(h:HH σ F L H)(hy:L.ys[k]?=some Y){K:Option Addr->Prop}(hK:K (some ⟨Y.p,0,none⟩)):Ix L.arow.a L.arow.len (k:Int) 1 λa=>LdH S .p a K:=by
 have i:(ptrV (L.ys.map (·.p)))[k]?=some (.pointer (some ⟨Y.p,0,none⟩)):=by simp[ptrV,hy]
 obtain⟨b,o,j,_⟩:=h.arowS.cell i;have y:=(gSi.1 hy).1;have u:=h.arowL;have:=h.s.ys;rw[j];refine ix O O ⟨_,λm r=>?_,hK⟩;obtain⟨_,_,_,g,_⟩:=hS m r;obtain⟨x,w,d,e⟩:=g.arowS.cell i;rw[j]at d;cases d;rw[add_lit,show o+(k:Int).toNat*1=o+k by omega];exact e
theorem AtH.rC {S:aP}(hS:AtH S L H.tb)(h:HH σ F L H)(hc:H.tb[k]?=some c){K:Int->Prop}(hK:K (c.size:Int)):Ix L.tab.a L.tab.len (k:Int) 3 λa=>LdH S bN (a.add 0) K:=by
 have e:(tabV H.tb)[3*k+0]?=some (.int .i64 (c.size:Int)):=(HN hc).1;obtain⟨b,o,r,_⟩:=h.tabS.cell e;have y:=(gSi.1 hc).1;have u:=h.tabL;rw[r];refine ix O O ⟨_,λm s=>?_,hK⟩;obtain⟨_,_,_,j,p⟩:=hS m s;rw[←p]at e;obtain⟨x,w,d,g⟩:=j.tabS.cell e;have d:L.tab.a=_:=d;rw[r]at d;cases d;rw[add_lit,add_lit,show o+(k:Int).toNat*3+0=o+(3*k+0) by omega];exact g
end Go.Ar
namespace Go.Ar
open Go Go.Vc Go.Proofs
variable {σ u u':Hp}{F B P Q:Rg}{L:LayH}{H H':Hw}{t k n pb:Nat}{A:AR}{Y:Lay}{x:LayT}{g:Th}{c:Cls}{l:Li}{cs:List Value}{parts:List (List Int)}{xs:List Int}
theorem HK.ownE (K:HK F σ B u P L H)(e:Ext B u u'){B':Rg}(hB:∀b,B' b->B b\/u.size<=b/\b<u'.size):HK F σ B' u' P L H:=by
 have r:=e.1;have m:=K.e.1;have i:Off B/\¬B 1:=⟨K.o.1.sub λb g=>(K.b b g).1,λg=>K.o.2 (K.b _ g).1⟩;refine⟨K.h.keep e (λb _ a d=>(K.p b a).2.1 d) i.1 i.2,K.e.newT e λb j=>.inr (K.b b j).1,λb a=>⟨(K.p b a).1,λg=>?_,by have:=(K.p b a).2.2;omega⟩,λb a=>?_,K.o⟩
 ·rcases hB b g with d|d
  ·exact(K.p b a).2.1 d
  ·have:=(K.p b a).2.2;omega
 ·rcases hB b a with d|d
  ·have:=K.b b d;omega
  ·omega
def sV (s:Sl):Value:=.slice s.a s.len s.cap
def PtR (pb:Nat)(parts:List (List Int)):Hp->Rg->Prop:=λu Q=>∃(ps:List Sl) (Qs:Nat->Rg),ps.length=parts.length/\Q pb/\Blk u pb (ps.map sV)/\(∀j b,Qs j b->Q b/\b≠pb)/\(∀j j' b,Qs j b->Qs j' b->j=j') ∧
 ∀j s xs,ps[j]?=some s->parts[j]?=some xs->RowO s 1 (Wv xs) u (Qs j)
theorem PtR.loc (pb:Nat)(parts:List (List Int)):Lcl (PtR pb parts):=by
 rintro σ H F G ⟨B,Qs,z,y,p,g,w,A⟩ x i;have r:=i pb p.lt y;obtain⟨e,u⟩:=p;refine⟨B,λj b=>Qs j b/\b<σ.size,z,r.1,⟨e,r.2.trans u⟩,λj b d=>⟨(i b d.2 (g j b d.1).1).1,(g j b d.1).2⟩,λj E b a C=>w j E b a.1 C.1,λj s D a b=>(RowO.loc _ _ _) _ _ _ _ (A j s D a b) x λb d m=>⟨⟨m,d⟩,(i b d (g j b m).1).2⟩⟩
theorem PtR.add (h:PtR pb parts u Q){a m e1 e2:Nat}(hm:m=parts.length)(ha:parts[a]?=some xs)(y:Int)(hl:xs.length<=1000000){K:aP}(hK:∀u',Ext Q u u'->PtR pb (parts.set a (xs++[y])) u' (Grow Q u)->K u') :
 Ix (some ⟨pb,0,none⟩) m (a:Int) 1 λa1=>LdS a1 u λt35=>Nw (.cells #[.int .i64 y] e1 (0,0)) u λn37 v4=>App t35 1 8 e2 [.int .i64 0] ⟨some n37,1,1⟩ v4 λt38 v5=>Ix (some ⟨pb,0,none⟩) m (a:Int) 1 λa39=>St1 a39 (.slice t38.a t38.len t38.cap) v5 λv6=>K v6:=by
 obtain⟨B,Qs,h1,R,M,A,N,S⟩:=h;have H:=(gSi.1 ha).1;have p:B[a]?=some (B[a]' O):=gGe _;generalize (B[a]' O)=s at p;have i:=S a s xs p ha;have ab:s.len=xs.length:=by have:=i.1;simp[Wv]at this;omega
 refine ix O O ?_;rw[add_lit,show 0+(a:Int).toNat*1=a by omega];refine M.rS0 (a:=s.a) (n:=s.len) (c:=s.cap) (by simp[p,sV]) ?_;refine nw (cs:=[.int .i64 y]) λv4 hz e d=>?_;have r:=(RowO.loc _ _ _).keep0 ((RowO.loc _ _ _).cut i) e;have L:=e.blk M id;refine r.app (x:=⟨some ⟨u.size,0,none⟩,1,1⟩) (ys:=[.int .i64 y]) rfl rfl ?_ (by simp[one1]) ?_ ?_ zBG λV v5 aa C G=>?_
 ·intro j w hw;rw[add_lit,zG,d.cell];exact hw
 ·simp only;omega
 ·simp only;omega
 have hz5:=C.1;have J:Blk v5 pb (B.map sV):=C.blk L λz=>(A a pb z.1).2 rfl;refine ix O O ?_;rw[add_lit,show 0+(a:Int).toNat*1=a by omega];refine J.s0 aE λu' P g=>?_;have Y:=P.1;have F:Ext (· = pb) v5 u':=P.ext;have W:Ext Q u u':=((Ext0.to e).trans (C.sub λb d=>(A a b d.1).1)).trans (F.sub λb d=>by rw[d];exact R);have U:=M.lt;refine hK u' W ⟨B.set a V,λj b=>Qs j b/\b<u.size\/j=a/\v4.size<=b/\b<v5.size,by simp[h1],.inl R,?_,λj b d=>?_,λj Z b d g=>?_,λj s2 ys D E=>?_⟩
 ·rw[zDJ];exact g
 ·rcases d with d|d
  ·exact⟨.inl (A j b d.1).1,(A j b d.1).2⟩
  ·exact⟨.inr O,O⟩
 ·rcases d with d|d<;>rcases g with g|g
  ·exact N j Z b d.1 g.1
  ·omega
  ·omega
  ·omega
 ·by_cases hja:j=a
  ·subst hja;rw[zM O]at D;rw[zM H]at E;cases D;cases E;have:=(RowO.loc _ _ _).keep ((RowO.loc _ _ _).cut G) F λb _ d z=>by
    rcases d.1 with h7|h7
    ·exact(A j b h7.1).2 z
    ·omega
   have X:Wv (xs++[y])=Wv xs++[.int .i64 y]:=by simp[Wv]
   rw[X];refine(RowO.loc _ _ _).mono this λb _ d=>?_;rcases d.1 with h7|h7
   ·exact .inl h7
   ·exact .inr ⟨rfl,h7,d.2⟩
  ·rw[zh (Ne.symm hja)]at D E;have:=(RowO.loc _ _ _).cut (S j s2 ys D E);have:=(RowO.loc _ _ _).keep ((RowO.loc _ _ _).keep ((RowO.loc _ _ _).keep0 this e) C λb _ d z=>hja (N j a b d.1 z.1)) F λb _ d z=>(A j b d.1).2 z;exact(RowO.loc _ _ _).mono this λb _ d=>.inl d
theorem PtR.get (h:PtR pb parts u Q){a m:Nat}(hm:m=parts.length)(ha:parts[a]?=some xs){K:Sl->Prop}(hK:∀s,RowO s 1 (Wv xs) u Q->s.len=xs.length->K s):Ix (some ⟨pb,0,none⟩) m (a:Int) 1 λa1=>LdS a1 u K:=by
 obtain⟨g,Qs,y,x,w,r,z,p⟩:=h;have i:=(gSi.1 ha).1;have e:g[a]?=some (g[a]' O):=gGe _;generalize (g[a]' O)=s at e;have d:=p a s xs e ha;refine ix O O ?_;rw[add_lit,show 0+(a:Int).toNat*1=a by omega];refine w.rS0 (a:=s.a) (n:=s.len) (c:=s.cap) (by simp[e,sV]) (hK s ((RowO.loc _ _ _).mono d λb _ j=>(r a b j).1) ?_);have:=d.1;simp[Wv]at this;omega
theorem Wao {ars:List AR}{x:Int}(h:0<=YJ ars x):(YJ ars x).toNat<ars.length/\YJ ars x=((YJ ars x).toNat:Int):=by
 refine⟨?_,O⟩;unfold YJ at *;split at h
 ·omega
 ·rename_i hx;rw[zA hx];split at h
  ·rename_i i hi;have:=(zGW.1 hi).1;simp only[iTn];exact this
  ·omega
theorem Wi5 {ars:List AR}{x:Int}{xs:List Int}(h:0<=YJ ars x):((List.range ars.length).map (ZW ars xs)).set (YJ ars x).toNat (ZW ars xs (YJ ars x).toNat++[x])=(List.range ars.length).map (ZW ars (xs++[x])):=by
 have a:=Wao h;apply zw;intro j;by_cases hj:j<ars.length
 ·by_cases e:(YJ ars x).toNat=j
  ·subst e;rw[zM (by simpa using hj)];simp only[ze,zBO hj,zf,ZW,zEH]
   congr 2
   rw[zDM (by rw[←a.2];simp)];rfl
  ·rw[zh e];simp only[ze,zBO hj,zf,ZW,zEH];have:List.filter (λy=>YJ ars y==(j:Int)) [x]=[]:=by
    rw[zDL (by simp only[zX];omega)];rfl
   rw[this,zz]
 ·rw[zZ aE,zZ aE]
theorem UW {K:aO}{body:(Bool->Hp->Prop)->Prop}(P:aO)(h1:∀r w,P r w->K r w)(h2:∀J:Bool->Hp->Prop,(∀r w,P r w->J r w)->body J):JnB K body:=JnB.intro (h2 K h1)
theorem WmT {K:Fam [.b]}{body:Fam [.b]->Prop}(P:aO)(h1:∀r w,P r w->K r w)(h2:∀J:Fam [.b],(∀r w,P r w->J r w)->body J):Jn [.b] K body:=Jn.intro (h2 K h1)
theorem Wbm {K:Fam []}{body:Fam []->Prop}(P:aP)(h1:∀w,P w->K w)(h2:∀J:Fam [],(∀w,P w->J w)->body J):Jn [] K body:=Jn.intro (h2 K h1)
theorem Ve {H:Hw}{k:Nat}{part:Nat->List Int}(j:Nat):Vg H k part (List.range (j+1))=(match (Vg H k part (List.range j)).ars[j]? with
 | some A=>if part j=[]then Vg H k part (List.range j)else(Vg H k part (List.range j)).setA j (Zg A (k:Int) (part j))
 | none=>Vg H k part (List.range j)):=by
 unfold Vg;rw[zAC,zAT];rfl
theorem Wds {H:Hw}{k:Nat}{part:Nat->List Int}(j:Nat):(Vg H k part (List.range j)).ars.length=H.ars.length:=by
 induction j with
 | zero=>rfl
 | succ j ih=>
  rw[Ve];split
  ·split
   ·exact ih
   ·simp[Hw.setA,ih]
  ·exact ih
theorem WgQ {H:Hw}{k:Nat}{part:Nat->List Int}(j:Nat):(Vg H k part (List.range j)).ths=H.ths:=by
 induction j with
 | zero=>rfl
 | succ j ih=>
  rw[Ve];split
  ·split<;>exact ih
  ·exact ih
theorem WaB (H:Hw)(own k:Nat)(xs:List Int):(HT H own k xs).ths=H.ths:=by
 unfold HT;split
 ·split
  ·rfl
  ·rw[WgQ];split<;>rfl
 ·rfl
def BkI (F:Rg)(σ:Hp)(L:LayH)(H:Hw)(pb:Nat)(parts:List (List Int))(cs:List Value)(w:Hp):Prop:=∃Q P:Rg,HK F σ (λb=>b=σ.size\/Q b) w P L H/\PtR pb parts w Q/\Blk w σ.size cs/\∀b,Q b->b≠σ.size
theorem WlE (h:HH σ F L H){own:Nat}(ho:own<H.ars.length)(k:Nat){sl:Sl}{xs:List Int}{X:Rg}(hs:SlR sl 1 (Wv xs) σ X)(hX:∀b,b<σ.size->X b->¬F b)(hcap:sl.len<=sl.cap)(hx:∀x∈xs,I63 x/\0<=YJ H.ars x)(hl:xs.length<=1000000){R:aP}
 (hR:∀σ',Ext F σ σ'->HH σ' (Grow F σ) L (HT H own k xs)->R σ'):ZB.c (aW L.p) (own:Int) (k:Int) sl σ R:=by
 refine ZB.o ?_;unfold ZB.v;have hsl:sl.len=xs.length:=by have:=hs.1;simp[Wv]at this;omega
 have ha2:=h.s.a2;have hal:=h.arowL;have hs1:∀u,Ext F σ u->SlR sl 1 (Wv xs) u (λb=>X b/\b<σ.size):=λu eu=>aH.keep (aH.cut hs) eu λb _ hx hf=>hX b hx.2 hx.1 hf;refine nw (cs:=[.int .i64 (k:Int),.slice sl.a sl.len sl.cap]) λv hz e d=>?_;have K1:=(HK.start h).box e hz;refine nilP (K1.h.hd.rS rfl ?_);simp only;refine mk (n:=L.arow.len) O O λv1 hz1 D hb1=>?_;have K2:=K1.box D hz1;have hb2:=D.blk d id;have S:PtR v.size ((List.range H.ars.length).map (ZW H.ars [])) v1 (λb=>b=v.size):=by
  refine⟨List.replicate H.ars.length ⟨none,0,0⟩,λ_ _=>False,by simp,rfl,?_,λj b d=>d.elim,λj j' b d=>d.elim,λj s ys g h2=>?_⟩
  ·have:(List.replicate L.arow.len [Value.slice none 0 0]).flatten=(List.replicate H.ars.length (⟨none,0,0⟩:Sl)).map sV:=by
    rw[hal];simp[sV]
   rw[←this];exact hb1
  ·simp only[ze,zCJ]at h2;obtain⟨a,_,rfl⟩:=h2;simp only[zAV]at g;split at g
   ·cases g;exact RowO.nil _ _ _ _
   ·cases g
 have af:∀ys:List Int,L.arow.len=((List.range H.ars.length).map (ZW H.ars ys)).length:=λys=>by simp[hal]
 refine hb2.rS rfl ?_;refine ZT (a:=bN) (λ(z:Int) w=>∃i:Nat,z=(i:Int)/\i<=xs.length/\BkI F σ L H v.size ((List.range H.ars.length).map (ZW H.ars (xs.take i))) [.int .i64 (k:Int),.slice sl.a sl.len sl.cap] w) (λz _=>xs.length-z.toNat)
  ⟨0,rfl,O,λb=>b=v.size,_,⟨K2.h,K2.e,λb d=>⟨(K2.p b d).1,λhx=>(K2.p b d).2.1 (hx.imp .inr id),(K2.p b d).2.2⟩,λb d=>K2.b b (d.imp .inr id),K2.o⟩,S,hb2,λb d=>O⟩ ?_
 rintro z w ⟨i,rfl,hi,Q,P,K,S,C,hQ⟩;refine ifD (λM=>?_) λah=>?_
 ·simp only at M;have hi':i<xs.length:=by omega
  have aa:xs[i]?=some xs[i]:=gGe hi';generalize xs[i]=y at aa;have hy:=hx y (zE aa);refine(hs1 w K.e).ixI aa (Wa4 K.h y hy.1 λZ D=>?_);have M:=Wao hy.2;rw[M.2];have hP1:PtR v.size _ Z (λb=>Q b/\b<w.size):=(PtR.loc _ _).keep0 ((PtR.loc _ _).cut S) D;have ad:((List.range H.ars.length).map (ZW H.ars (xs.take i)))[(YJ H.ars y).toNat]?=some (ZW H.ars (xs.take i) (YJ H.ars y).toNat):=by
   simp only[ze,zBO M.1,zf]
  have hpl1:(ZW H.ars (xs.take i) (YJ H.ars y).toNat).length<=1000000:=by
   have:=zBA (λx=>YJ H.ars x==(((YJ H.ars y).toNat:Nat):Int)) (xs.take i);simp only[ZW];rw[zO]at this;omega
  refine hP1.add (af _) ad y hpl1 λw2 e2 ae=>?_;rw[Wi5 hy.2]at ae;have ht:xs.take i++[y]=xs.take (i+1):=by rw[zg,aa];rfl
  rw[ht]at ae;have hz1:=D.1;have hz2:=e2.1;refine arN (m:=i+1) O O ⟨⟨i+1,rfl,O,λb=>(Q b/\b<w.size)\/Z.size<=b/\b<w2.size,P,(K.fr D).ownE (e2.sub λb d=>.inr d.1) λb d=>?_,(PtR.loc _ _).mono ae λb d V=>?_,?_,λb d=>?_⟩,O⟩
  ·rcases d with d|d|d
   ·exact .inl (.inl d)
   ·exact .inl (.inr d.1)
   ·exact .inr d
  ·rcases V with V|V
   ·exact .inl V
   ·exact .inr ⟨V,d⟩
  ·exact e2.blk (D.blk C id) λhx=>hQ _ hx.1 rfl
  ·have:=(K.b σ.size (.inl rfl)).2;rcases d with d|d
   ·exact hQ b d.1
   ·omega
 ·have hii:i=xs.length:=by simp only at ah;omega
  subst hii;rw[zl]at S;obtain⟨A,hA⟩:∃A,H.ars[own]?=some A:=⟨_,gGe ho⟩;obtain⟨Y,hY,_,_⟩:=h.ar hA;have E:HT H own k xs=(if(ZW H.ars xs own).length=xs.length/\Vi A (k:Int) xs=true then H.setA own (Q9 A (k:Int) xs)
   else Vg (if(ZW H.ars xs own).length=xs.length then H.setA own (Q9 A (k:Int) xs)else H) k (ZW H.ars xs) (List.range H.ars.length)):=by
   unfold HT;rw[hA]
  have hown:((List.range H.ars.length).map (ZW H.ars xs))[own]?=some (ZW H.ars xs own):=by
   simp only[ze,zBO ho,zf]
  refine Wbm (λw=>¬((ZW H.ars xs own).length=xs.length/\Vi A (k:Int) xs=true)/\BkI F σ L (if(ZW H.ars xs own).length=xs.length then H.setA own (Q9 A (k:Int) xs)else H) v.size ((List.range H.ars.length).map (ZW H.ars xs)) [.int .i64 (k:Int),.slice sl.a sl.len sl.cap] w) (λw hw=>?_) λJ hJ=>?_
  ·obtain⟨hno,hw⟩:=hw;rw[zA hno]at E;generalize hH1:(if(ZW H.ars xs own).length=xs.length then H.setA own (Q9 A (k:Int) xs)else H)=H1 at hw E
   have hH1l:H1.ars.length=H.ars.length:=by
    rw[←hH1];split
    ·simp[Hw.setA]
    ·rfl
   refine ZT (a:=bN) (λ(z:Int) w=>∃j:Nat,z=(j:Int)/\j<=H.ars.length/\BkI F σ L (Vg H1 k (ZW H.ars xs) (List.range j)) v.size ((List.range H.ars.length).map (ZW H.ars xs)) [.int .i64 (k:Int),.slice sl.a sl.len sl.cap] w) (λz _=>H.ars.length-z.toNat) ⟨0,rfl,O,hw⟩ ?_;rintro z w ⟨j,rfl,hj,Q,P,K,S,C,hQ⟩;refine ifD (λM=>?_) λah=>?_
   ·simp only at M;have hj':j<H.ars.length:=by omega
    have hpj:((List.range H.ars.length).map (ZW H.ars xs))[j]?=some (ZW H.ars xs j):=by
     simp only[ze,zBO hj',zf]
    refine S.get (af _) hpj λs W U=>?_;have hfl:=Wds (H:=H1) (k:=k) (part:=ZW H.ars xs) j;obtain⟨B,hB⟩:∃B,(Vg H1 k (ZW H.ars xs) (List.range j)).ars[j]?=some B:=⟨_,gGe O⟩;have G:=Ve (H:=H1) (k:=k) (part:=ZW H.ars xs) j;rw[hB]at G;simp only at G;refine ifD (λhpos=>?_) λhz0=>?_
    ·have N:ZW H.ars xs j≠[]:=λe=>by rw[e]at U;simp at U;omega
     rw[zA N]at G;obtain⟨Y,hY,_,_⟩:=K.h.ar hB;refine nilP (K.h.hd.rS rfl (K.h.rA hY (C.rI rfl ?_)));refine Wcu K.h hB hY (k:Int) (RowO.slR W) (λb _ V hp=>(K.p b hp).2.1 (.inr V)) (λx hx'=>(hx x (zH.1 hx').1).1) ?_ (RowO.cap W) λZ D g=>?_
     ·have:=zBA (λx=>YJ H.ars x==(j:Int)) xs;simp only[ZW];omega
     ·have hz1:=D.1;rw[←G]at g;refine arN (m:=j+1) O O ⟨⟨j+1,rfl,O,Q,_,K.to D g λb _ d=>d,(PtR.loc _ _).keep S D λb _ V hp=>(K.p b hp).2.1 (.inr V),K.keepB D C (.inl rfl),hQ⟩,O⟩
    ·have N:ZW H.ars xs j=[]:=zGI O;rw[zB N]at G;refine arN (m:=j+1) O O ⟨⟨j+1,rfl,O,Q,P,by rw[G];exact K,S,C,hQ⟩,O⟩
   ·have hjj:j=H.ars.length:=by simp only at ah;omega
    subst hjj;rw[E]at hR;exact hR w K.e (K.fin h)
  ·refine S.get (af _) hown λs W U=>C.rS rfl ?_;refine iff_ (λheq=>?_) λN=>?_
   ·have ac:(ZW H.ars xs own).length=xs.length:=by simp only[zX]at heq;omega
    rw[zB ac]at E hJ;have hS:AtH (λu=>(∃P' H',HH u P' L H'/\H'.tb=H.tb)/\Blk u σ.size [.int .i64 (k:Int),.slice sl.a sl.len sl.cap]) L H.tb:=λm hm=>by
     obtain⟨⟨P',H',g,h2⟩,_⟩:=hm;exact⟨P',L.ts,H',g,h2⟩
    refine⟨λu=>(∃P' H',HH u P' L H'/\H'.tb=H.tb)/\Blk u σ.size [.int .i64 (k:Int),.slice sl.a sl.len sl.cap],⟨⟨_,_,K.h,rfl⟩,C⟩,nilP (hS.arow (hS.rA K.h hY ?_))⟩;refine⟨(k:Int),λm hm=>by rw[add_lit,hm.2.cell];rfl,⟨sl,λm hm=>by rw[add_lit,hm.2.cell];rfl,?_⟩⟩;refine Wbl K.h hA hY (k:Int) (hs1 w K.e) (λx hx'=>(hx x hx').1) λZ D g=>?_;have K1:=K.to D g λb _ d=>d;refine⟨⟨⟨_,_,g,rfl⟩,K.keepB D C (.inl rfl)⟩,?_⟩;have fin:∀r,r=Vi A (k:Int) xs->((r=true->R Z)/\(r=false->J Z)):=λr hr=>by
     refine⟨λag=>?_,λag=>hJ Z ⟨λhx=>Bool.noConfusion ((ag.symm.trans hr).trans hx.2),Q,_,K1,(PtR.loc _ _).keep S D λb _ V hp=>(K.p b hp).2.1 (.inr V),K.keepB D C (.inl rfl),hQ⟩⟩;rw[zB ⟨ac,by rw[←hr,ag]⟩]at E;rw[E]at hR;exact hR Z K1.e (K1.fin h)
    refine UW (λr w=>w=Z/\r=Vi A (k:Int) xs) (λr w' ⟨hw,hr⟩=>?_) λJ3 hJ3=>?_
    ·subst hw;exact iff_ (λg=>(fin r hr).1 g) λg=>(fin r hr).2 g
    ·refine iff_ (λg=>hJ3 _ _ ⟨rfl,?_⟩) λg=>hJ3 _ _ ⟨rfl,g.symm⟩;have:HC A (k:Int) xs=0:=by
      unfold Vi at g;simp only[zF,zS]at g;exact g.1
     rw[this,g];rfl
   ·have ab:¬(ZW H.ars xs own).length=xs.length:=by
     simp only[zBC]at N;omega
    rw[zA ab]at hJ;exact hJ w ⟨λhx=>ab hx.1,Q,P,K,S,C,hQ⟩
theorem ret2 {w:Hp}(K:HK F σ B w P L H)(hB:B n){p q:Int}(hb:Blk w n [.int .i64 p,.int .i64 q]){x y:Int}{K':Int->Int->Hp->Prop}(hK:∀w',HK F σ B w' P L H->K' x y w') :
 St1 (Addr.add ⟨n,0,none⟩ 0) (.int .i64 x) w λv3=>St1 (Addr.add ⟨n,0,none⟩ 1) (.int .i64 y) v3 λv4=>LdI .i64 (Addr.add ⟨n,0,none⟩ 0) v4 λres=>LdI .i64 (Addr.add ⟨n,0,none⟩ 1) v4 λres1=>K' res res1 v4:=
 hb.s1 aA λv3 o3 b=>b.s1 aA λv4 o4 a=>a.rI rfl (a.rI rfl (hK v4 ((K.own o3 hB).own o4 hB)))
theorem WkL (h:HH σ F L H)(ht:t<H.ths.length)(x:Int)(hx:I63 x)(hr:mget H.live x=none->∀A∈H.ars,RunsOk A)(hlen:∀g,H.ths[t]?=some g->g.hands.length<=1000)(h0:∀b,mget H.live x=some b->0<=x){R:Value->Int->Int->Hp->Prop}
 (hR:∀σ' ts',Ext F σ σ'->HH σ' (Grow F σ) {L with ts:=ts'} (UZ H t x).1->R (phV (UZ H t x).2.1) (UZ H t x).2.2.1 (UZ H t x).2.2.2 σ'):ZA.c (aW L.p) (t:Int) x σ R:=by
 refine ZA.o ?_;unfold ZA.v;refine nw (cs:=[.int .i64 0,.int .i64 0]) λv hz e hb=>?_;have K1:=(HK.start h).box e hz;refine nilP (K1.h.hd.rM rfl ⟨_,K1.h.liveM,?_⟩);refine nw (cs:=[.int .i64 0,.int .i64 0,.int .i64 0,.int .i64 0]) λv1 hz1 e1 hb1=>?_;have K2:=K1.box e1 hz1;have hbv:=e1.blk hb id;have m:σ.size≠v.size:=by omega
 refine hb1.s1 aA λv2 o2 b2=>b2.s1 aA λv3 o3 b3=>b3.s1 aA λv4 o4 b4=>b4.s1 aA λv5 o5 b5=>?_;have K5:=(((K2.own o2 (.inr rfl)).own o3 (.inr rfl)).own o4 (.inr rfl)).own o5 (.inr rfl);have B:=Ws o5 (Ws o4 (Ws o3 (Ws o2 hbv m) m) m) m;have hL:L = {L with ts:=L.ts}:=rfl;cases hm:mget H.live x with
 | none=>
  have hno:UZ H t x=(H,none,0,whyH H x):=by unfold UZ;rw[hm]
  rw[hno]at hR;simp only at hR;refine ifT rfl ?_;refine Wbm (λw=>whyH H x=8/\Ext0 v5 w) (λw ⟨h8,ew⟩=>?_) λJ M=>?_
  ·rw[h8]at hR;exact ret2 (n:=σ.size) (K5.fr ew) (.inl (.inr rfl)) (ew.blk B id) λE K'=>hR E L.ts K'.e (K'.fin h)
  ·refine Wa4 K5.h x hx λv9 Q=>?_;have K9:=K5.fr Q;have hb9:=Q.blk B id;refine ifD (λW=>?_) λhlt=>M v9 ⟨zA O,Q⟩;have K:=Wao W;obtain⟨A,hA⟩:∃A,H.ars[(YJ H.ars x).toNat]?=some A:=⟨_,gGe K.1⟩;obtain⟨Y,hY,_,hAY⟩:=K9.h.ar hA;have a:whyH H x=(match Hb A x with
    | some (k,y)=>if 0<=k/\(y:Int)=x then(9:Int)else 8
    | none=>8):=by unfold whyH;rw[zB W,hA];rfl
   rw[K.2];refine nilP (K9.h.hd.rS rfl (K9.h.rA hY ?_));refine Wmq hAY (hr hm A (zE hA)) x hx (λG k y d hf=>?_) λG d hf=>?_
   ·rw[hf]at a;simp only at a;rw[a]at hR M;have K10:=K9.fr d;have X:=d.blk hb9 id;refine UW (λr w=>w=G/\r=decide (0<=k)) (λr w ⟨N,i⟩=>?_) λJ1 z=>?_
    ·subst N;subst i;refine UW (λr w2=>w2=w/\r=decide (0<=k/\(y:Int)=x)) (λr w2 ⟨N,i⟩=>?_) λJ2 S=>?_
     ·subst i;rw[N];refine ifD (λC=>?_) λC=>?_
      ·rw[zB C]at hR;exact ret2 (n:=σ.size) K10 (.inl (.inr rfl)) X λE K'=>hR E L.ts K'.e (K'.fin h)
      ·exact M w ⟨zA C,Q.trans d⟩
     ·refine ifD (λC=>S _ _ ⟨rfl,?_⟩) λC=>S _ _ ⟨rfl,?_⟩
      ·by_cases hyx:(y:Int)=x
       ·rw[zU (⟨C,hyx⟩:0<=k/\(y:Int)=x),zX.2 hyx]
       ·rw[zi (λhx=>hyx hx.2),zBC.2 hyx]
      ·rw[zi (λhx=>C hx.1)]
    ·exact ifT rfl (z _ _ ⟨rfl,rfl⟩)
   ·rw[hf]at a;simp only at a;rw[a]at M;refine UW (λr w=>w=G/\r=false) (λr w ⟨N,i⟩=>?_) λJ1 z=>ifF rfl (z _ _ ⟨rfl,rfl⟩);subst N;subst i;exact JnB.intro (ifF rfl (ifF rfl (M w ⟨rfl,Q.trans d⟩)))
 | some b=>
  have hb0:=h0 b hm;have hfd:UZ H t x=(if b.2.2.1<0 then({H with live:=mdel H.live x},some (.give (x/256) b.2.2.2),0,0)
   else(QP {H with live:=mdel H.live x} t b.2.2.1.toNat [x],some (.put b.2.2.1.toNat x),0,0)):=by unfold UZ;rw[hm]
  rw[hfd]at hR;have hgb:(mget H.live x).getD ((0,0,0,0):Bk)=b:=by rw[hm];rfl
  rw[hgb]at b5;refine ifF rfl ?_;refine nilP (K5.h.hd.rM rfl ?_);obtain⟨hF,ab⟩:=K5.h.stepL;refine⟨_,K5.h.liveM,λv6 o6 _ hm6=>?_⟩;obtain⟨e6,h6⟩:=ab v6 _ (o6 _ rfl) hm6;have K6:=K5.to e6 h6 λb _ hb=>.inl hb;have U:=K5.keepB e6 B (.inl (.inr rfl));have s:=K5.keepB e6 b5 (.inr rfl);refine s.rI rfl (ifD (λV=>?_) λhnn=>?_)
  ·have D:b.2.2.1<0:=V;rw[zB D]at hR;refine nz aB (ar (by rw[YL O];omega) (by rw[YL O];unfold I63 at hx;omega) (s.rI rfl ?_));rw[YL O];exact ret2 (n:=σ.size) K6 (.inl (.inr rfl)) U λE K'=>hR E L.ts K'.e (K'.fin h)
  ·have P:¬b.2.2.1<0:=hnn;rw[zA P]at hR;refine s.rI rfl (nw (cs:=[.int .i64 x]) λv7 hz7 e7 hb7=>?_);have K7:=K6.box e7 hz7;have Z:=e7.blk U id;have hc7:=e7.blk s id;have aa:b.2.2.1=((b.2.2.1.toNat:Nat):Int):=by omega
   have hs7:SlR ⟨some ⟨v6.size,0,none⟩,1,1⟩ 1 (Wv [x]) v7 (· = v6.size):=hb7.slR (o:=0) rfl rfl λj hj=>by rw[zG];rfl
   have hz6:=K6.e.1;rw[aa];refine G8 K7.h (t:=t) ht b.2.2.1.toNat hs7 (zC _) aA (λq _ u hp=>(K7.p q hp).2.1 (.inr u)) (K7.o.1.sub λq u=>O) (λu=>K7.o.2 O) hlen λv8 ts8 e8 h8=>?_;have K8:=(K6.fr e7).toX e8 h8 λq hql u=>by
    rcases u with u|u
    ·exact u.imp id .inl
    ·refine .inr (.inr ⟨.inr O,λhB=>?_⟩);have:=(K6.b q hB).2;omega
   have hb8:=K7.keepB e8 Z (.inl (.inl (.inr rfl)));have hc8:=K7.keepB e8 hc7 (.inl (.inr rfl));refine hc8.rI (x:=((b.2.2.1.toNat:Nat):Int)) (by rw[←aa];rfl) ?_;exact ret2 (n:=σ.size) K8 (.inl (.inr rfl)) hb8 λE K'=>hR E ts8 K'.e (K'.fin h)
end Go.Ar
namespace Go.Ar
open Go Go.Vc Go.Proofs
variable {σ u u':Hp}{F B P Q:Rg}{L:LayH}{H H':Hw}{t k n pb:Nat}{A:AR}{Y:Lay}{x:LayT}{g:Th}{c:Cls}{l:Li}{cs:List Value}
theorem nx0 {t' t:TypeId}{w:Value}{A B:Prop}(hne:t'≠t)(h:B):∃is:Bool,AsB (.iface t' w) t [] [] is/\If is A B:=⟨false,⟨rfl,.inr ⟨_,_,rfl,hne⟩⟩,ifF rfl h⟩
theorem nx1 {t' t:TypeId}{w:Value}{A B:Int->Prop}(hne:t'≠t)(h:B 0):∃x:Int,∃is:Bool,AsB (.iface t' w) t [.int .i64 x] [.int .i64 0] is/\If is (A x) (B x):=⟨0,false,⟨rfl,.inr ⟨_,_,rfl,hne⟩⟩,ifF rfl h⟩
theorem nx2 {t' t:TypeId}{w:Value}{A B:Int->Int->Prop}(hne:t'≠t)(h:B 0 0):∃x:Int,∃y:Int,∃is:Bool,AsB (.iface t' w) t [.int .i64 x,.int .i64 y] [.int .i64 0,.int .i64 0] is/\If is (A x y) (B x y):=⟨0,0,false,⟨rfl,.inr ⟨_,_,rfl,hne⟩⟩,ifF rfl h⟩
theorem ye0 {t:TypeId}{A B:Prop}(h:A):∃is:Bool,AsB (.iface t (.agg #[])) t [] [] is/\If is A B:=⟨true,rfl,ifT rfl h⟩
theorem ye1 {t:TypeId}{a:Int}{A B:Int->Prop}(h:A a):∃x:Int,∃is:Bool,AsB (.iface t (.agg #[.int .i64 a])) t [.int .i64 x] [.int .i64 0] is/\If is (A x) (B x):=⟨a,true,rfl,ifT rfl h⟩
theorem ye2 {t:TypeId}{a b:Int}{A B:Int->Int->Prop}(h:A a b):∃x:Int,∃y:Int,∃is:Bool,AsB (.iface t (.agg #[.int .i64 a,.int .i64 b])) t [.int .i64 x,.int .i64 y] [.int .i64 0,.int .i64 0] is/\If is (A x y) (B x y):=⟨a,b,true,rfl,ifT rfl h⟩
theorem HH.tc (h:HH u P L H)(hx:L.ts[t]?=some x)(hg:H.ths[t]?=some g){b o:Nat}(ha:L.trow.a=some ⟨b,o,none⟩){d:Nat}(hd:d<3){v:Value}(hv:(thV (x,g))[d]?=some v):cell u (Addr.add ⟨b,o+3*t,none⟩ d)=some v:=by
 obtain⟨m,j,e,i⟩:=Ur h.trowS hx hg hd hv;rw[ha]at e;cases e;rw[add_lit,show o+3*t+d=o+(3*t+d) by omega];exact i
theorem HH.stN (h:HH u P L H)(hP:∀b,P b->b<u.size)(hx:L.ts[t]?=some x)(hg:H.ths[t]?=some g)(N:Rg)(hN:∀b,b<u.size->P b->¬N b)(oN:Off N)(oN2:¬N 1) :
 ∃G D:Rg,(∀b,G b->P b)/\(∀b,D b->P b)/\(∀b,G b->¬D b)/\BtR x.h g.hands u G/\(∀u1,Ext G u u1->SlR L.trow 3 (trV L.ts H.ths) u1 D) ∧
 ∀(u1:Hp) (s:Sl) (bs:List Bt) (G':Rg),Ext G u u1->(∀b,G' b->G b\/N b)->BtR s bs u1 G'->∀{b o:Nat} (ha:L.trow.a=some ⟨b,o,none⟩) {K:aP},
  (∀u2,Ext D u1 u2->HH u2 (λb=>P b/\¬G b\/G' b/\b<u1.size) {L with ts:=L.ts.set t {x with h:=s}} {H with ths:=H.ths.set t {g with hands:=bs}}->K u2) →
  St1 (Addr.add ⟨b,o+3*t,none⟩ 1) (.slice s.a s.len s.cap) u1 K:=by
 have X:=h.trowL;have J:=Ge h.s.ts;have S:=(gSi.1 hg).1;obtain⟨G,D,B,y,hd,U,F,_,r⟩:=h.stepN hx hg N hN oN oN2;have p:∀u1,Ext G u u1->RowR L.trow 3 (trV L.ts H.ths) u1 D:=λu1 e=>aI.keep F e λb _ d hx=>hd b hx d;refine⟨G,D,B,y,hd,U,λu1 e=>RowR.slR (p u1 e),λu1 s bs G' e i A b o ha K R=>?_⟩;have M:o=0:=by
  rcases F.2 with⟨h0,_⟩|⟨V,_,_,ha',_⟩
  ·omega
  ·rw[ha]at ha';cases ha';rfl
 subst M;have m:∀b,G' b->¬D b:=λb d hx=>by
  rcases i b d with h1|h1
  ·exact hd b h1 hx
  ·exact hN b (hP b (y b hx)) (y b hx) h1
 refine(p u1 e).st (j:=3*t+1) O (λV w=>by rw[ha]at w;cases w;rw[add_lit];congr 1;omega) λu2 C z=>?_;have E:=(BtR.loc _ _).keep ((BtR.loc _ _).cut A) C λb _ d hx=>m b d.1 hx;obtain⟨W,Q⟩:=r u2 s bs (Cut G' u1) D ((e.sub λb d=>.inl d).trans (C.sub λb d=>.inr d)) (λb d=>(i b d.1).imp .inl id) (λb d=>.inl (.inr d)) (λb d=>m b d.1) E z;refine R u2 C (Q.mono (λb _ d=>?_) (λb (d:P b/\¬G b\/G' b/\b<u1.size)=>?_) λ(d:P _/\¬G _\/G' _/\_<u1.size)=>?_)
 ·rcases d with d|d|d
  ·exact .inl ⟨d.1,λhx=>d.2.2 (.inl hx)⟩
  ·exact .inr d
  ·exact .inl ⟨y b d,λhx=>hd b hx d⟩
 ·rcases d with d|d
  ·exact h.o b d.1
  ·exact(i b d.1).elim (λhx=>h.o b (B b hx)) (oN b)
 ·rcases d with d|d
  ·exact h.o2 d.1
  ·exact(i _ d.1).elim (λhx=>h.o2 (B _ hx)) oN2
theorem BtR.uncons {s:Sl}{G:Rg}{xs:List Int}{r:List Bt}(h:BtR s ((k,xs)::r) u G):∃(so:Sl) (ps:List (Nat×Sl)) (D:Rg),RowO s 2 (btsV ((k,so)::ps)) u (λb=>G b/\¬D b)/\SlR so 1 (Wv xs) u (λb=>D b/\InB so b)/\so.len<=so.cap/\BtO ps r u (λb=>D b/\¬InB so b)/\(∀b,D b->G b)/\Djp ps/\(∀x∈r,x.2≠[])/\xs≠[]:=by
 obtain⟨ps,D,e,j,M,E,d⟩:=h;cases ps with
 | nil=>have:=j.1;simp at this
 | cons p ps=>
  obtain⟨C,so⟩:=p;obtain⟨A,z,y⟩:=j.2 0 (C,so) (k,xs) rfl rfl;simp only at A z y;subst A;have g:=zAS.1 E;refine⟨so,ps,D,e,z.inB,y,⟨by have:=j.1;simpa using this,λi p x B m=>?_⟩,M,g.2,λx m=>d x (zAJ _ m),d _ zAN⟩;obtain⟨F,J,L⟩:=j.2 (i+1) p x (by simpa using B) (by simpa using m);refine⟨F,aH.mono J.inB λb _ w=>⟨w.1,?_⟩,L⟩;rintro⟨a,h1,h2⟩;obtain⟨H,N,K⟩:=w.2;exact g.1 p (zE B) a H h1 N (h2.trans K.symm)
theorem BtR.drop1 {s:Sl}{G:Rg}{b:Bt}{r:List Bt}(h:BtR s (b::r) u G):BtR ⟨if s.cap=1 then s.a else s.a.map (·.add (1*2)),s.len-1,s.cap-1⟩ r u G:=by
 have j:=h.len;obtain⟨k,A⟩:=b;obtain⟨z,p,D,d,y,x,m,w,g,e,B⟩:=h.uncons;exact⟨p,D,d.from (lo:=1) (by simp at j;omega),(BtO.loc _ _).mono m λb _ i=>i.1,w,g,e⟩
theorem WoB {s so:Sl}{ps:List (Nat×Sl)}{G:Rg}(h:SlR s 2 (btsV ((k,so)::ps)) u G){K:Addr->Prop}(hK:∀a,cell u (Addr.add a 0)=some (.int .i64 (k:Int))->cell u (Addr.add a 1)=some (.slice so.a so.len so.cap)->K a):Ix s.a s.len 0 2 K:=by
 obtain⟨b,o,i,m⟩:=h.cell (j:=0) (v:=.int .i64 (k:Int)) rfl;obtain⟨r,p,d,e⟩:=h.cell (j:=1) (v:=.slice so.a so.len so.cap) rfl;have g:=h.1;rw[Ky]at g;simp only[zP]at g;rw[i]at d;cases d;rw[i];refine ix O O ?_;rw[add_lit];exact hK _ (by rw[add_lit];exact m) (by rw[add_lit];exact e)
theorem BtR.app {s s2:Sl}{G Q:Rg}{bs bs2:List Bt}{e:Nat}(h:BtR s bs u G)(h2:BtR s2 bs2 u Q)(hd:∀b,G b->¬Q b)(hl:bs.length+bs2.length<=1000){K:Sl->Hp->Prop}
 (hK:∀s' u',Ext G u u'->BtR s' (bs++bs2) u' (λb=>G b\/Q b\/u.size<=b)->K s' u'):App s 2 32 e [.int .i64 0,.slice none 0 0] s2 u K:=by
 have l1:=h.len;have l2:=h2.len;obtain⟨S,D,y,F,Y,J,z⟩:=h;obtain⟨H,D2,A,m,r,U,w⟩:=h2;by_cases h0:s2.len=0
 ·have X:bs2=[]:=zGI O;subst X;refine y.app0 h0 (by
   have:s.len*32<=1000*32:=zAF (by simp at hl;omega) O;omega) (by simp at hl;omega) λN=>hK _ u (Ext.refl _ _) ?_
  rw[zz];exact⟨S,D,(RowO.loc _ _ _).mono N λb _ d=>⟨.inl d.1,d.2⟩,F,λb d=>.inl (Y b d),J,z⟩
 ·have e1:(s.len+s2.len)*32<=1000*32:=zAF O O;refine((RowO.loc _ _ _).cut y).app (ys:=btsV H) rfl (by rw[Ky];have:=m.1;omega) A.slR.rd Hu O O O λs' u' _ L N=>hK s' u' (L.sub λb d=>d.1.1) ?_;have hz:=L.1;have Z:=F.1;refine⟨S++H,λb=>D b/\b<u.size\/D2 b/\b<u.size,?_,⟨by simp[F.1,m.1],λi p x C g=>?_⟩,λb d=>?_,zBT.2 ⟨J,U,λp C q hq a a' V P e3=>?_⟩,λx g=>(zR.1 g).elim (z x) (w x)⟩
  ·rw[U5];refine(RowO.loc _ _ _).mono N λb _ d=>?_;rcases d with d|d
   ·exact⟨.inl d.1.1,λg=>g.elim (λg=>d.1.2 g.1) λg=>hd b d.1.1 (r b g.1)⟩
   ·exact⟨.inr (.inr d),λg=>by rcases g with g|g<;>omega⟩
  ·rcases zAO i S.length with B|B
   ·rw[zd B]at C;rw[zd O]at g;obtain⟨M,W,R⟩:=F.2 i p x C g;exact⟨M,aH.mono (aH.keep (aH.cut W) L λb _ d g=>g.1.2 d.1) λb _ d=>.inl d,R⟩
   ·rw[zm B]at C;rw[zm O,←Z]at g;obtain⟨M,W,R⟩:=m.2 _ p x C g;exact⟨M,aH.mono (aH.keep (aH.cut W) L λb _ d g=>hd b g.1.1 (r b d.1)) λb _ d=>.inr d,R⟩
  ·rcases d with d|d
   ·exact .inl (Y b d.1)
   ·exact .inr (.inl (r b d.1))
  ·obtain⟨i,B⟩:=zN C;obtain⟨j,J⟩:=zN hq;have hil:=(gSi.1 B).1;have hjl:=(gSi.1 J).1;have hy:bs[i]?=some (bs[i]' O):=gGe _;have E:bs2[j]?=some (bs2[j]'(by have:=m.1;omega)):=gGe _;have b1:=(F.2 i p _ B hy).2.1.blk (by simpa[Wv]using z _ (zE hy)) ⟨a,V,rfl⟩;have b2:=(m.2 j q _ J E).2.1.blk (by simpa[Wv]using w _ (zE E)) ⟨a',P,rfl⟩;rw[e3]at b1;exact hd _ (Y _ b1.1) (r _ b2.1)
theorem HK.addB (K:HK F σ B u P L H){B':Rg}(h1:∀b,B' b->σ.size<=b/\b<u.size/\¬P b):HK F σ (λb=>B b\/B' b) u P L H:=
 ⟨K.h,K.e,λb a=>⟨(K.p b a).1,λg=>g.elim (K.p b a).2.1 λd=>(h1 b d).2.2 a,(K.p b a).2.2⟩,λb a=>a.elim (K.b b) λd=>⟨(h1 b d).1,(h1 b d).2.1⟩,K.o⟩
theorem ZM (hg:H.ths[t]?=some g)(f:Th->Th):H.setT t f = {H with ths:=H.ths.set t (f g)}:=by
 unfold Hw.setT;rw[K0 hg]
theorem GK (hg:H.ths[t]?=some g):H.thr t=g:=by unfold Hw.thr;rw[zL,hg];rfl
theorem Ua (hc:H.tb[k]?=some c):H.cls k=c:=by unfold Hw.cls;rw[zL,hc];rfl
theorem WkD (hl:g.ls[k]?=some l):g.li k=l:=by unfold Th.li;rw[zL,hl];rfl
theorem Wji (ha:H.ars[H.own t]?=some A):H.arn t=A:=by unfold Hw.arn;rw[zL,ha];rfl
theorem own_lt (h:HS L H)(t:Nat):H.own t<H.ars.length:=zDP _ (by have:=h.a1;omega)
theorem HH.lsL (h:HH u P L H)(hx:L.ts[t]?=some x)(hg:H.ths[t]?=some g):g.ls.length=H.tb.length:=by
 obtain⟨G,_,a,_⟩:=h.stepC hx hg;exact a.len
theorem WdC (ha:H.ars[k]?=some A):H.setA k A=H:=by unfold Hw.setA;rw[Ql ha]
theorem Wov (l:List Nat):ints l=Wv (l.map λ(x:Nat)=>(x:Int)):=by simp[ints,Wv]
theorem WaM (f:Cls->Li->List Int×Li)(tb:List Cls)(ls:List Li):(Ka f tb ls).length<=tb.length:=by
 unfold Ka;exact zI (List.length_filterMap_le _ _) aA
theorem HH.tb40 (h:HH u P L H):H.tb.length<=40:=by
 obtain⟨x,g,a,d⟩:=h.th (t:=0) h.s.t1;obtain⟨G,_,b,_⟩:=h.stepC a d;exact b.tb1
theorem ix0 {s:Sl}{b o:Nat}(ha:s.a=some ⟨b,o,none⟩)(hl:0<s.len){K:Addr->Prop}(hK:K ⟨b,o+0,none⟩):Ix s.a s.len 0 1 K:=by
 rw[ha];exact ix (zCH _) O (by rw[add_lit];exact hK)
theorem WoN {s:Sl}{ps:List (Nat×Sl)}{G:Rg}(h:SlR s 2 (btsV ps) σ G)(hl:s.len<=1000000){R:Sl->Hp->Prop}(hR:∀s' σ',s'.len=s.len->Ext0 σ σ'->RowR s' 2 (btsV ps) σ' (λb=>σ.size<=b)->R s' σ'):Wp.c s σ R:=by
 refine Wp.o ?_;unfold Wp.v;exact GX h O rfl Hu O hl hR
def WgX (H:Hw)(t:Nat):Ph->Prop
 | .take k=>k<H.tb.length/\∀y l,Kb (H.cls k) ((H.thr t).li k)=(some y,l)->I63 y
 | .transfer k _=>k<H.tb.length/\(Z7 (H.arn t) (k:Int)=0->YK (H.arn t) (k:Int)≠[])
 | .central _ _=>True
 | .grow _ _=>True
 | .fill=>∃k x xs r,(H.thr t).hands=(k,x::xs)::r/\k<H.tb.length/\I63 x/\((H.thr t).li k).os.length+xs.length<=256
 | .large m=>Z5 (H.arn t) H.sp (m:Int) 1<=1000000
 | .find x=>I63 x/\(mget H.live x=none->∀A∈H.ars,RunsOk A)/\∀b,mget H.live x=some b->0<=x
 | .put k _=>k<H.tb.length/\(H.thr t).hands≠[]
 | .back=>∃k xs r,(H.thr t).hands=(k,xs)::r/\(∀x∈xs,I63 x/\0<=YJ H.ars x)/\xs.length<=1000000
 | .give _ a=>0<=a/\a.toNat<H.ars.length/\∀A∈H.ars,∀r∈A.runs,r.1<=1000000
 | .drain=>True
def WoZ (σ:Hp)(F:Rg)(L:LayH)(o:OutH)(R:Value->Int->Int->Hp->Prop):Prop:=∀σ' ts',Ext F σ σ'->HH σ' (Grow F σ) {L with ts:=ts'} o.1->R (phV o.2.1) o.2.2.1 o.2.2.2 σ'
end Go.Ar