/- Texts joined. -/
import Derived.Test.YtkabjcanamcbeaaGreatDoorP4
set_option linter.unusedVariables false
set_option linter.unusedSimpArgs false
namespace Go.Ar
open Go Go.Vc Go.Proofs
variable {σ:Hp}
theorem WbG:∀(xs:List (Int×Int×Int)),WbM xs=true↔∀(i:Nat) a b,xs[i]?=some a->xs[i+1]?=some b->a.1<b.1
 | []=>by simp[WbM]
 | [x]=>by simp[WbM]
 | x::y::l=>by
  have ih:=WbG (y::l);show(decide (x.1<y.1)&&WbM (y::l))=true↔_;rw[zF,ih,zT];constructor
  ·rintro⟨h1,h2⟩ i a b d e;cases i with
   | zero=>simp at d e;subst d;subst e;exact h1
   | succ i=>exact h2 i a b (by simpa using d) (by simpa using e)
  ·intro h;exact⟨h 0 x y rfl rfl,λi a b d e=>h (i+1) a b (by simpa using d) (by simpa using e)⟩
theorem Qq (xs:List (Int×Int×Int)):Qi xs=true↔1<=xs.length/\xs.length<=40/\(∀(i:Nat) t,xs[i]?=some t->Uf t.1 t.2.1 t.2.2=true)/\∀(i:Nat) a b,xs[i]?=some a->xs[i+1]?=some b->a.1<b.1:=by
 unfold Qi;simp only[zF,zT,WbG,zAA];constructor
 ·rintro⟨h1,h2,h3,h4⟩;exact⟨h1,h2,λi t d=>h3 t (zE d),h4⟩
 ·rintro⟨h1,h2,h3,h4⟩;exact⟨h1,h2,λt d=>by obtain⟨i,e⟩:=zN d;exact h3 i t e,h4⟩
theorem HJ {s:Sl}{xs:List (Int×Int×Int)}(ha:Acts σ s xs){R:aO}(hR:∀σ',Ext0 σ σ'->R (Qi xs) σ'):ZG.c s σ R:=by
 refine ZG.o ?_;unfold ZG.v;have P:∀σ',Ext0 σ σ'->¬(1<=xs.length/\xs.length<=40/\(∀(i:Nat) t,xs[i]?=some t->Uf t.1 t.2.1 t.2.2=true)/\∀(i:Nat) a b,xs[i]?=some a->xs[i+1]?=some b->a.1<b.1)->R false σ':=λσ' e hn=>by
  have:=hR σ' e;have hf:Qi xs=false:=by rw[←zCM,Qq];exact hn
  rw[hf]at this;exact this
 have X:=ha.1;refine JnB.intro (ifD (λc1=>ifT rfl (P σ (Ext.refl _ _) λh=>O)) λc1=>?_);refine ifD (λc2=>P σ (Ext.refl _ _) λh=>O) λc2=>?_;refine ZS (a:=bN) (λ(t:Int) v=>∃i:Nat,t=(i:Int)/\i<=xs.length/\Ext0 σ v/\(∀(j:Nat) t,j<i->xs[j]?=some t->Uf t.1 t.2.1 t.2.2=true)/\∀(j:Nat) a b,j+1<i->xs[j]?=some a->xs[j+1]?=some b->a.1<b.1) (λt _=>xs.length-t.toNat)
  ⟨0,rfl,O,Ext.refl _ _,λj t h=>O,λj a b h=>O⟩ ?_
 rintro t v ⟨i,rfl,S,e,Y,V⟩;have M:=YO ha e;refine ifD (λhlt=>?_) λhge=>?_
 ·have L:i<xs.length:=by omega
  have B:xs[i]?=some xs[i]:=gGe L;generalize xs[i]=r at B;obtain⟨x,y,z⟩:=r;refine UV M B ?_;refine nw (cs:=[.int .i64 0,.int .i64 0,.int .i64 0]) λv2 hz2 e2 b2=>b2.s1 aA λv3 o3 b3=>b3.s1 aA λv4 o4 b4=>b4.s1 aA λv5 o5 H=>?_;have e5:Ext0 v v5:=Ext.fresh (Ext.fresh (Ext.fresh e2 o3.ext λi S=>O) o4.ext λi S=>O) o5.ext λi S=>by omega
  refine Jn.intro ⟨(· = v5),rfl,⟨x,λm D=>by rw[D,add_lit,H.cell];rfl,⟨y,λm D=>by rw[D,add_lit,H.cell];rfl,⟨z,λm D=>by rw[D,add_lit,H.cell];rfl,?_⟩⟩⟩⟩;refine Wig x y z λv7 Z=>?_;have w:=(Ext.trans e e5).trans Z;have F:(Uf x y z=false\/∃a,0<i/\xs[i-1]?=some a/\x<=a.1)->R false v7:=λU=>P v7 w λK=>by
   rcases U with U|⟨a,J,hb1,hb2⟩
   ·have:=K.2.2.1 i _ B;simp only at this;rw[U]at this;cases this
   ·have:=K.2.2.2 (i-1) a (x,y,z) hb1 (by rw[show i-1+1=i by omega];exact B);simp only at this;omega
  cases hc:Uf x y z
  ·exact ifT rfl (ifT rfl (F (.inl hc)))
  ·have next:(∀a,0<i->xs[i-1]?=some a->a.1<x)->Ar .i64 ((i:Int)+1) λg=>(∃i:Nat,g=(i:Int)/\i<=xs.length/\Ext0 σ v7/\(∀(j:Nat) t,j<i->xs[j]?=some t->Uf t.1 t.2.1 t.2.2=true)/\∀(j:Nat) a b,j+1<i->xs[j]?=some a->xs[j+1]?=some b->a.1<b.1)/\xs.length-g.toNat<xs.length-(i:Int).toNat:=by
    intro J;refine arN (m:=i+1) O O ⟨⟨i+1,rfl,O,w,λj t hj A=>?_,λj a b hj u d=>?_⟩,O⟩
    ·by_cases hji:j=i
     ·subst hji;rw[B]at A;cases A;exact hc
     ·exact Y j t O A
    ·by_cases hji:j+1=i
     ·subst hji;rw[B]at d;cases d;exact J a O u
     ·exact V j a b O u d
   refine ifF rfl (ifD (λJ=>?_) λJ=>ifF rfl (next λa hp2=>O))
   have p:xs[i-1]?=some (xs[i-1]' O):=gGe _;generalize xs[i-1]' O=r at p;obtain⟨Q,y',z'⟩:=r;have E:=YO ha w;obtain⟨b,o,g1,g2,g3,g4,g5⟩:=E.2 (i-1) Q y' z' p;have W:=Z.blk H id;refine arN (m:=i-1) O O ?_;rw[g1];refine ix O O ?_;have C:cell v7 ⟨b,o+(((i-1:Nat):Int)).toNat*3+0,none⟩=some (.int .i64 Q):=by simpa using g3
   have fin:If (decide (x<=Q)) (R false v7) (Ar .i64 ((i:Int)+1) λg=>(∃i:Nat,g=(i:Int)/\i<=xs.length/\Ext0 σ v7/\(∀(j:Nat) t,j<i->xs[j]?=some t->Uf t.1 t.2.1 t.2.2=true)/\∀(j:Nat) a b,j+1<i->xs[j]?=some a->xs[j+1]?=some b->a.1<b.1)/\xs.length-g.toNat<xs.length-(i:Int).toNat):=by
    refine ifD (λN=>F (.inr ⟨_,O,p,N⟩)) λaa=>next λa _ G=>?_
    rw[p]at G;cases G;simp only;omega
   rw[add_lit b o];exact⟨W.rI rfl (ldI0 C fin),ldI0 C (W.rI rfl fin)⟩
 ·have:i=xs.length:=by omega
  subst this;have K:Qi xs=true:=(Qq xs).2 ⟨O,O,λi t A=>Y i t (gSi.1 A).1 A,λi a b u d=>V i a b (gSi.1 d).1 u d⟩;have:=hR v e;rw[K]at this;exact this
end Go.Ar
namespace Go.Ar
open Go Go.Vc Go.Proofs
open Go.Bu (Zf QL Zu cnt)
variable {σ:Hp}{F H:Rg}{p hs:Nat}{A:AR}{sp:Sp}{Y:Lay}{T:Nat->Hp->Rg->Prop}
open Classical in
theorem _root_.Go.Vc.Sep.put {L:Type}{C C':L->Hp->Rg->Prop}{σ:Hp}{F G:Rg}(hC:∀i,Lcl (C i))(h:Sep C σ F)(i:L)(hd:∀b,G b->¬F b)(hj:∀j,j≠i->C' j=C j)(hi:C' i σ G)(hL:Lcl (C' i)):Sep C' σ λb=>F b\/G b:=by
 obtain⟨ρ,h⟩:=h;refine⟨λb=>if G b then i else ρ b,λj=>?_⟩
 by_cases hji:j=i
 ·subst hji;exact hL.mono hi λb _ d=>⟨.inr d,zB d⟩
 ·rw[hj j hji];refine(hC j).mono (h j) λb _ a=>⟨.inl a.1,?_⟩;show(if G b then i else ρ b)=j
  rw[zA λe=>hd b e a.1];exact a.2
def ACh (A:AR)(Y:Lay)(T:Nat->Hp->Rg->Prop)(cs:List Value):Lb->Hp->Rg->Prop
 | .hd=>BlkR Y.p cs
 | i=>AC A Y T i
theorem ACh.loc {cs:List Value}(hT:∀k,Lcl (T k)):∀i,Lcl (ACh A Y T cs i)
 | .hd=>BlkR.loc _ _
 | .tab=>AC.loc (A:=A) (Y:=Y) hT .tab
 | .free=>AC.loc (A:=A) (Y:=Y) hT .free
 | .trk=>AC.loc (A:=A) (Y:=Y) hT .trk
 | .own=>AC.loc (A:=A) (Y:=Y) hT .own
 | .crow=>AC.loc (A:=A) (Y:=Y) hT .crow
 | .trow=>AC.loc (A:=A) (Y:=Y) hT .trow
 | .runs=>AC.loc (A:=A) (Y:=Y) hT .runs
 | .cen k=>AC.loc (A:=A) (Y:=Y) hT (.cen k)
 | .tra k=>AC.loc (A:=A) (Y:=Y) hT (.tra k)
theorem WoN:ACh A Y T (hdV Y)=AC A Y T:=by
 funext i;cases i<;>rfl
theorem WfM {cs:List Value}(hT:∀k,Lcl (T k))(h:Sep (ACh A Y T cs) σ F)(hlen:A.cen.length<=Y.cps.length)(hl:Y.cps.length<=40){vb cp ty:Nat}(hb:Blk σ vb [.pointer (some ⟨cp,0,none⟩)])(hvb:¬F vb){K:Sl->Hp->Prop}
 (hK:∀s' σ',Ext F σ σ'->Sep (ACh A {Y with crow:=s',cps:=Y.cps++[cp]} T cs) σ' (Grow F σ)->K s' σ'):App Y.crow 1 8 ty [.pointer none] ⟨some ⟨vb,0,none⟩,1,1⟩ σ K:=by
 obtain⟨G,g,d,_,a⟩:=h.stepD (ACh.loc hT) .crow;have d:RowR Y.crow 1 (ptrV Y.cps) σ G:=d;have r:Y.crow.len=Y.cps.length:=by have:=d.1;simp[ptrV]at this;omega
 refine d.app (ys:=[.pointer (some ⟨cp,0,none⟩)]) rfl rfl ?_ (by simp[one1]) aC aC zBG λs' σ' i e m=>hK s' σ' (e.sub g) ?_
 ·intro j u hu;rw[add_lit,zG,hb.cell];exact hu
 refine(Sep.loc (ACh.loc hT)).mono (a σ' (ACh A {Y with crow:=s',cps:=Y.cps++[cp]} T cs) (Grow G σ) (λj p=>?_) e (λb hb=>hb) ?_ (ACh.loc hT _)) λb _ hb=>U7 g (λb hb=>hb) b hb
 ·cases j<;>first|rfl|exact absurd rfl p|skip
  rename_i k;show CenR (Y.cps++[cp])[k]? A.tb[k]? A.cen[k]?=CenR Y.cps[k]? A.tb[k]? A.cen[k]?;rcases zAN k Y.cps.length with h1|h1
  ·rw[ze h1]
  ·have:A.cen[k]?=none:=zY O;rw[this]
   funext σ F
   unfold CenR;cases(Y.cps++[cp])[k]?<;>cases Y.cps[k]?<;>cases A.tb[k]?<;>rfl
 ·show RowR s' 1 (ptrV (Y.cps++[cp])) σ' (Grow G σ);have:ptrV (Y.cps++[cp])=ptrV Y.cps++[.pointer (some ⟨cp,0,none⟩)]:=by simp[ptrV]
  rw[this];exact m
theorem Whn (hlen:A.tra.length<=Y.tps.length)(tp:Nat)(s':Sl):traT A {Y with trow:=s',tps:=Y.tps++[tp]}=traT A Y:=by
 funext k
 unfold traT;simp only;rcases zAN k Y.tps.length with h1|h1
 ·rw[ze h1]
 ·have:A.tra[k]?=none:=zY O;rw[this]
  funext σ F
  unfold TraR;cases(Y.tps++[tp])[k]?<;>cases Y.tps[k]?<;>cases A.tb[k]?<;>rfl
theorem Wfy {cs:List Value}(h:Sep (ACh A Y (traT A Y) cs) σ F)(hlen:A.tra.length<=Y.tps.length)(hl:Y.tps.length<=40){vb tp ty:Nat}(hb:Blk σ vb [.pointer (some ⟨tp,0,none⟩)])(hvb:¬F vb){K:Sl->Hp->Prop}
 (hK:∀s' σ',Ext F σ σ'->Sep (ACh A {Y with trow:=s',tps:=Y.tps++[tp]} (traT A {Y with trow:=s',tps:=Y.tps++[tp]}) cs) σ' (Grow F σ)->K s' σ'):App Y.trow 1 8 ty [.pointer none] ⟨some ⟨vb,0,none⟩,1,1⟩ σ K:=by
 have g:∀k,Lcl (traT A Y k):=λk=>traT.loc k;obtain⟨G,i,d,_,a⟩:=h.stepD (ACh.loc g) .trow;have d:RowR Y.trow 1 (ptrV Y.tps) σ G:=d;have s:Y.trow.len=Y.tps.length:=by have:=d.1;simp[ptrV]at this;omega
 refine d.app (ys:=[.pointer (some ⟨tp,0,none⟩)]) rfl rfl ?_ (by simp[one1]) aC aC zBG λs' σ' p e m=>hK s' σ' (e.sub i) ?_
 ·intro j u hu;rw[add_lit,zG,hb.cell];exact hu
 rw[Whn hlen];refine(Sep.loc (ACh.loc g)).mono (a σ' (ACh A {Y with trow:=s',tps:=Y.tps++[tp]} (traT A Y) cs) (Grow G σ) (λj r=>?_) e (λb hb=>hb) ?_ (ACh.loc g _)) λb _ hb=>U7 i (λb hb=>hb) b hb
 ·cases j<;>first|rfl|exact absurd rfl r
 ·show RowR s' 1 (ptrV (Y.tps++[tp])) σ' (Grow G σ);have:ptrV (Y.tps++[tp])=ptrV Y.tps++[.pointer (some ⟨tp,0,none⟩)]:=by simp[ptrV]
  rw[this];exact m
theorem Woe {cs:List Value}(hT:∀k,Lcl (T k))(h:Sep (ACh A Y T cs) σ F){i:Nat}{v:Value}(hi:i<cs.length){K:aP}(hK:∀σ',Ext F σ σ'->Sep (ACh A Y T (cs.set i v)) σ' F->K σ'):St1 (Addr.add ⟨Y.p,0,none⟩ i) v σ K:=by
 obtain⟨G,g,d,_,e⟩:=h.stepD (ACh.loc hT) .hd;have d:BlkR Y.p cs σ G:=d;refine d.2.s1 O λσ' o b=>hK σ' (o.ext.sub λb a=>by subst a;exact g _ d.1) ?_;rw[zG]at b;refine(Sep.loc (ACh.loc hT)).mono (e σ' (ACh A Y T (cs.set i v)) G (λj m=>?_) (o.ext.sub λb a=>by subst a;exact d.1) (λb a=>.inl a) ⟨d.1,b⟩ (ACh.loc hT _)) λb _ a=>WcC g (λb a=>a) b a;cases j<;>first|rfl|exact absurd rfl m
theorem hdCh {cs:List Value}(h:Sep (ACh A Y T cs) σ F):Blk σ Y.p cs/\F Y.p:=by
 obtain⟨G,b,a,d⟩:=h.get .hd;exact⟨d,b _ a⟩
theorem Wmn {cs:List Value}{i cp tp:Nat}{c:Cls}{ss:List SpA}{t:TrA}{ps:List (Nat×Nat)}{Gc Gt:Rg}(h:Sep (ACh A Y (traT A Y) cs) σ F)(hlc:A.cen.length=i)(hlt:A.tra.length=i)(hcp:Y.cps[i]?=some cp)(htp:Y.tps[i]?=some tp)(hc:A.tb[i]?=some c)
 (hC:CeH σ Gc cp c ps ss) (hTf:TfH σ Gt tp c.batch A.room t) (d1:∀b,Gc b->¬F b) (d2:∀b,Gt b->¬F b) (d3:∀b,Gc b->¬Gt b) :
 Sep (ACh {A with cen:=A.cen++[ss],tra:=A.tra++[t]} Y (traT {A with cen:=A.cen++[ss],tra:=A.tra++[t]} Y) cs) σ λb=>(F b\/Gc b)\/Gt b:=by
 have r:∀k,Lcl (traT A Y k):=λk=>traT.loc k;have u:Sep (ACh {A with cen:=A.cen++[ss]} Y (traT A Y) cs) σ λb=>F b\/Gc b:=by
  refine h.put (ACh.loc r) (.cen i) d1 (λj p=>?_) ?_ (ACh.loc r _)
  ·cases j<;>first|rfl|skip
   rename_i k;have d:k≠i:=λe=>p (by rw[e]);show CenR Y.cps[k]? A.tb[k]? (A.cen++[ss])[k]?=CenR Y.cps[k]? A.tb[k]? A.cen[k]?;rcases zAN k i with h2|h2
   ·rw[ze O]
   ·have g:(A.cen++[ss])[k]?=none:=zY (by rw[zK,zDN];omega);have m:A.cen[k]?=none:=zY O;rw[g,m]
  ·show CenR Y.cps[i]? A.tb[i]? (A.cen++[ss])[i]? σ Gc;rw[hcp,hc,zm O,hlc,zBY];exact⟨ps,hC⟩
 refine u.put (ACh.loc r) (.tra i) (λb s a=>?_) (λj p=>?_) ?_ (ACh.loc (λk=>traT.loc k) _)
 ·rcases a with a|a
  ·exact d2 b s a
  ·exact d3 b a s
 ·cases j<;>first|rfl|skip
  rename_i k;have d:k≠i:=λe=>p (by rw[e]);show TraR Y.tps[k]? A.tb[k]? A.room (A.tra++[t])[k]?=TraR Y.tps[k]? A.tb[k]? A.room A.tra[k]?;rcases zAN k i with h2|h2
  ·rw[ze O]
  ·have g:(A.tra++[t])[k]?=none:=zY (by rw[zK,zDN];omega);have m:A.tra[k]?=none:=zY O;rw[g,m]
 ·show TraR Y.tps[i]? A.tb[i]? A.room (A.tra++[t])[i]? σ Gt;rw[htp,hc,zm O,hlt,zBY];exact hTf
open Classical in
noncomputable def Prt {L:Type}(C:L->Hp->Rg->Prop)(S:L->Prop)(i:L):Hp->Rg->Prop:=if S i then C i else WkS
theorem Prt.loc {L:Type}{C:L->Hp->Rg->Prop}{S:L->Prop}(hC:∀i,Lcl (C i))(i:L):Lcl (Prt C S i):=by
 unfold Prt;split
 ·exact hC i
 ·exact WkS.loc
theorem Prt.put {L:Type}{C:L->Hp->Rg->Prop}{S:L->Prop}{F G:Rg}(hC:∀i,Lcl (C i))(h:Sep (Prt C S) σ F)(i:L)(hd:∀b,G b->¬F b)(hi:C i σ G):Sep (Prt C λj=>S j\/j=i) σ λb=>F b\/G b:=by
 refine h.put (Prt.loc hC) i hd (λj a=>?_) ?_ (Prt.loc hC i)
 ·unfold Prt;by_cases hS:S j
  ·rw[zB (.inl hS),zB hS]
  ·rw[zA (λh=>hS (h.resolve_right a)),zA hS]
 ·unfold Prt;rw[zB (.inr rfl)];exact hi
theorem Prt.all {L:Type}{C:L->Hp->Rg->Prop}{S:L->Prop}{F:Rg}(h:Sep (Prt C S) σ F)(hS:∀i,S i):Sep C σ F:=by
 have:Prt C S=C:=by
  funext i;unfold Prt;rw[zB (hS i)]
 rw[this]at h;exact h
theorem Prt.one {L:Type}{C:L->Hp->Rg->Prop}(S:L->Prop)(l:L)(h:∀i,S i->C i σ λ_=>False):Sep (Prt C S) σ λ_=>False:=by
 refine⟨λ_=>l,λi=>?_⟩;have:(λ(b:Nat)=>False/\l=i)=λ_=>False:=by funext b;simp
 rw[this];unfold Prt;by_cases hS:S i
 ·rw[zB hS];exact h i hS
 ·rw[zA hS];trivial
theorem Wfr {tb:List Cls}:∀v∈tabV tb,one1 v=true:=by
 intro v hv;simp only[tabV,zCP]at hv;obtain⟨c,_,a⟩:=hv;simp at a;rcases a with rfl|rfl|rfl<;>rfl
theorem UI {s:Sl}{xs:List (Int×Int×Int)}(ha:Acts σ s xs)(hv:Qi xs=true){i:Nat}{c:Cls}(hc:(xs.map ZV)[i]?=some c):xs[i]?=some ((c.size:Int),(c.pages:Int),(c.batch:Int))/\c.ok:=by
 rw[zf,zCJ]at hc;obtain⟨⟨x,y,z⟩,d,rfl⟩:=hc;obtain⟨c,a,j,g,b,e⟩:=GX (((Qq xs).1 hv).2.2.1 i _ d);simp only at g b e;rw[j,d,g,b,e];exact⟨rfl,a⟩
theorem V8 {s:Sl}{xs:List (Int×Int×Int)}(ha:Acts σ s xs)(hv:Qi xs=true){R:Sl->Hp->Prop}(hR:∀s' σ',Ext0 σ σ'->SlR s' 3 (tabV (xs.map ZV)) σ' (λb=>σ.size<=b)->R s' σ'):Wc.c s σ R:=by
 refine Wc.o ?_;unfold Wc.v;have C:=(Qq xs).1 hv;have z:=ha.1;have w:0<(xs.map ZV).length:=by rw[za];omega
 have E:(xs.map ZV)[0]?=some (xs.map ZV)[0]:=gGe w;obtain⟨M,d,a,_⟩:=ha.2 0 _ _ _ (UI ha hv E).1;refine ifF (by rw[a];rfl) (nw (cs:=[]) λv D y F=>?_);have m:=YO ha y;refine(RowR.nil v (λb=>σ.size<=b) 3 (some ⟨σ.size,0,none⟩)).app (ys:=tabV (xs.map ZV)) rfl (by rw[KA,za];omega) ?_ Wfr aC aC O λs' J H G g=>hR s' J (Ext.fresh y G λi p=>p) ?_
 ·rw[a];intro j u hu;have x:=(gSi.1 hu).1;rw[KA,za]at x;have p:j/3<(xs.map ZV).length:=by rw[za];omega
  have r:(xs.map ZV)[j/3]?=some (xs.map ZV)[j/3]:=gGe p;generalize (xs.map ZV)[j/3]=c at r;have e:=HG r;obtain⟨b,o,A,_,B,L,K⟩:=m.2 (j/3) _ _ _ (UI ha hv r).1;rw[a]at A;cases A;rw[add_lit];rcases(by omega:j=3*(j/3)\/j=3*(j/3)+1\/j=3*(j/3)+2)with hj|hj|hj
  ·rw[hj]at hu;rw[e.1]at hu;cases hu;rw[show d+j=d+j/3*3 by omega];exact B
  ·rw[hj]at hu;rw[e.2.1]at hu;cases hu;rw[show d+j=d+j/3*3+1 by omega];exact L
  ·rw[hj]at hu;rw[e.2.2]at hu;cases hu;rw[show d+j=d+j/3*3+2 by omega];exact K
 ·rw[zBW]at g;refine aH.mono g.slR λb _ e=>?_;rcases e with h|h
  ·exact h
  ·omega
def newA (n room:Nat)(tb:List Cls):AR:={n:=n,room:=room,tb:=tb,S:=Go.Bu.emptyS,st:=List.replicate n 0,ow:=λ_=>0,cen:=List.replicate tb.length [],tra:=List.replicate tb.length ⟨0,[]⟩,runs:=[]}
def newP (n room:Nat)(tb:List Cls)(i:Nat):AR:={newA n room tb with cen:=List.replicate i [],tra:=List.replicate i ⟨0,[]⟩}
def newE (xs:List (Int×Int×Int))(n:Nat)(room:Int):Int:=if Qi xs then(if 32<=n/\n%16=0/\0<=room/\room<=8 then 0 else 1)else 2
def S0:Lb->Prop
 | .crow | .trow | .cen _ | .tra _=>True
 | _=>False
theorem Wfq {i cp tp:Nat}{c:Cls}{ss:List SpA}{t:TrA}{ps:List (Nat×Nat)}{Gc Gt:Rg}{crow trow:Sl}(hpos:Y.cps.length=i/\Y.tps.length=i)
 (h:Sep (ACh A {Y with crow:=crow,trow:=trow,cps:=Y.cps++[cp],tps:=Y.tps++[tp]} (traT A {Y with crow:=crow,trow:=trow,cps:=Y.cps++[cp],tps:=Y.tps++[tp]}) (hdV Y)) σ F)
 (hlc:A.cen.length=i) (hlt:A.tra.length=i) (hc:A.tb[i]?=some c) (hC:CeH σ Gc cp c ps ss) (hTf:TfH σ Gt tp c.batch A.room t) (d1:∀b,Gc b->¬F b) (d2:∀b,Gt b->¬F b) (d3:∀b,Gc b->¬Gt b) {K:aP}
 (hK:∀σ' Y',Ext F σ σ'->Y'.p=Y.p->Y'.hs=Y.hs->Y'.cps.length=i+1->Y'.tps.length=i+1->Sep (ACh {A with cen:=A.cen++[ss],tra:=A.tra++[t]} Y' (traT {A with cen:=A.cen++[ss],tra:=A.tra++[t]} Y') (hdV Y')) σ' (λb=>(F b\/Gc b)\/Gt b)->K σ') :
 NilP (some ⟨Y.p,0,none⟩) λa93=>St1 (a93.add 5) (.slice crow.a crow.len crow.cap) σ λv25=>NilP (some ⟨Y.p,0,none⟩) λa95=>St1 (a95.add 6) (.slice trow.a trow.len trow.cap) v25 K:=by
 have s:∀k,Lcl (traT A {Y with crow:=crow,trow:=trow,cps:=Y.cps++[cp],tps:=Y.tps++[tp]} k):=λk=>traT.loc k;refine nilP (Woe (Y:={Y with crow:=crow,trow:=trow,cps:=Y.cps++[cp],tps:=Y.tps++[tp]}) s h (i:=5) (by simp[hdV]) λz j x=>nilP (Woe (Y:={Y with crow:=crow,trow:=trow,cps:=Y.cps++[cp],tps:=Y.tps++[tp]}) s x (i:=6) (by simp[hdV]) λy g u=>?_));have m:=(CeH.loc (c:=c) (ps:=ps) (ss:=ss) (p:=cp)).keep ((CeH.loc (c:=c) (ps:=ps) (ss:=ss) (p:=cp)).keep hC j λb _ e d=>d1 b e d) g λb _ e d=>d1 b e d;have r:=(TfH.loc (p:=tp) (batch:=c.batch) (room:=A.room) (t:=t)).keep ((TfH.loc (p:=tp) (batch:=c.batch) (room:=A.room) (t:=t)).keep hTf j λb _ e d=>d2 b e d) g λb _ e d=>d2 b e d;have w:=Wmn (cp:=cp) (tp:=tp) u hlc hlt (by simp only;rw[zm O,hpos.1,zBY];rfl) (by simp only;rw[zm O,hpos.2,zBY];rfl) hc m r d1 d2 d3;exact hK y {Y with crow:=crow,trow:=trow,cps:=Y.cps++[cp],tps:=Y.tps++[tp]} (j.trans g) rfl rfl (by simp[hpos.1]) (by simp[hpos.2]) w
theorem chs {cs:List Value}{σ':Hp}(hT:∀k,Lcl (T k))(h:Sep (ACh A Y T cs) σ F)(e:Ext0 σ σ'):Sep (ACh A Y T cs) σ' F:=(Sep.loc (ACh.loc hT)).keep0 h e
theorem WoB {cs:List Value}(hT:∀k,Lcl (T k))(h:Sep (ACh A Y T cs) σ F):Sep (ACh A Y T cs) σ (Cut F σ):=(Sep.loc (ACh.loc hT)).cut h
theorem Wh1 (n room:Nat)(tb:List Cls)(i:Nat):({newP n room tb i with cen:=(newP n room tb i).cen++[[]],tra:=(newP n room tb i).tra++[⟨0,[]⟩]}:AR)=newP n room tb (i+1):=by
 unfold newP;simp only[←zGC]
theorem Wkk (n room:Nat)(tb:List Cls):newP n room tb tb.length=newA n room tb:=rfl
theorem Wo4 {i cp tp:Nat}{c:Cls}{ss:List SpA}{t:TrA}{ps:List (Nat×Nat)}{Gc Gt:Rg}{z:Nat}(hF:∀b,F b->z<=b/\b<σ.size)(hpos:Y.cps.length=i/\Y.tps.length=i)(hi:i<40)
 (h:Sep (ACh A Y (traT A Y) (hdV Y)) σ F) (hlc:A.cen.length=i) (hlt:A.tra.length=i) (hc:A.tb[i]?=some c) (hC:CeH σ Gc cp c ps ss) (hTf:TfH σ Gt tp c.batch A.room t) (d1:∀b,Gc b->¬F b/\z<=b/\b<σ.size) (d2:∀b,Gt b->¬F b/\z<=b/\b<σ.size) (d3:∀b,Gc b->¬Gt b) {J4:aP}
 (hK:∀σ' Y',Ext F σ σ'->Y'.p=Y.p->Y'.hs=Y.hs->Y'.cps.length=i+1->Y'.tps.length=i+1->Sep (ACh {A with cen:=A.cen++[ss],tra:=A.tra++[t]} Y' (traT {A with cen:=A.cen++[ss],tra:=A.tra++[t]} Y') (hdV Y')) σ' (λb=>z<=b)->J4 σ') :
 Held σ λS=>NilP (some ⟨Y.p,0,none⟩) λa80=>LdH S .s (a80.add 5) λ(t82:Sl)=>NilP (some ⟨Y.p,0,none⟩) λa87=>LdH S .s (a87.add 6) λ(t89:Sl)=>
  (Nw (.cells #[.pointer (some ⟨cp,0,none⟩)] 178 (0,0)) σ λn84 v21=>And (S v21) <|
   (App t82 1 8 178 [.pointer none] ⟨some n84,1,1⟩ v21 λt85 v22=>And (S v22)<|Nw (.cells #[.pointer (some ⟨tp,0,none⟩)] 180 (0,0)) v22 λn91 v23=>And (S v23)<|App t89 1 8 180 [.pointer none] ⟨some n91,1,1⟩ v23 λt92 v24=>And (S v24) <|
   NilP (some ⟨Y.p,0,none⟩) λa93=>St1 (a93.add 5) (.slice t85.a t85.len t85.cap) v24 λv25=>NilP (some ⟨Y.p,0,none⟩) λa95=>St1 (a95.add 6) (.slice t92.a t92.len t92.cap) v25 λv26=>J4 v26) ∧
   (Nw (.cells #[.pointer (some ⟨tp,0,none⟩)] 180 (0,0)) v21 λn911 v27=>And (S v27)<|App t82 1 8 178 [.pointer none] ⟨some n84,1,1⟩ v27 λt851 v28=>And (S v28)<|App t89 1 8 180 [.pointer none] ⟨some n911,1,1⟩ v28 λt921 v29=>And (S v29) <|
   NilP (some ⟨Y.p,0,none⟩) λa931=>St1 (a931.add 5) (.slice t851.a t851.len t851.cap) v29 λv30=>NilP (some ⟨Y.p,0,none⟩) λa951=>St1 (a951.add 6) (.slice t921.a t921.len t921.cap) v30 λv31=>J4 v31)) ∧
  (Nw (.cells #[.pointer (some ⟨tp,0,none⟩)] 180 (0,0)) σ λn912 v32=>And (S v32)<|Nw (.cells #[.pointer (some ⟨cp,0,none⟩)] 178 (0,0)) v32 λn841 v33=>And (S v33) <|
  App t82 1 8 178 [.pointer none] ⟨some n841,1,1⟩ v33 λt852 v34=>And (S v34)<|App t89 1 8 180 [.pointer none] ⟨some n912,1,1⟩ v34 λt922 v35=>And (S v35) <|
  NilP (some ⟨Y.p,0,none⟩) λa932=>St1 (a932.add 5) (.slice t852.a t852.len t852.cap) v35 λv36=>NilP (some ⟨Y.p,0,none⟩) λa952=>St1 (a952.add 6) (.slice t922.a t922.len t922.cap) v36 λv37=>J4 v37):=by
 have J:∀k,Lcl (traT A Y k):=λk=>traT.loc k;have U:=CeH.loc (c:=c) (ps:=ps) (ss:=ss) (p:=cp);have ab:=TfH.loc (p:=tp) (batch:=c.batch) (room:=A.room) (t:=t);refine⟨λm=>Blk m Y.p (hdV Y),(hdCh h).1,nilP ⟨Y.crow,λm hm=>by rw[add_lit,hm.cell];rfl,nilP ⟨Y.trow,λm hm=>by rw[add_lit,hm.cell];rfl,?_⟩⟩⟩;have D:∀(w:Hp) (F1:Rg) (b1 b2:Nat),Ext0 σ w->(∀b,F1 b->F b)->Sep (ACh A Y (traT A Y) (hdV Y)) w F1->Blk w b1 [.pointer (some ⟨cp,0,none⟩)]->Blk w b2 [.pointer (some ⟨tp,0,none⟩)]->σ.size<=b1->σ.size<=b2 →
  App Y.crow 1 8 178 [.pointer none] ⟨some ⟨b1,0,none⟩,1,1⟩ w λt85 v28=>And (Blk v28 Y.p (hdV Y))<|App Y.trow 1 8 180 [.pointer none] ⟨some ⟨b2,0,none⟩,1,1⟩ v28 λt92 v29=>And (Blk v29 Y.p (hdV Y)) <|
   NilP (some ⟨Y.p,0,none⟩) λa93=>St1 (a93.add 5) (.slice t85.a t85.len t85.cap) v29 λv30=>NilP (some ⟨Y.p,0,none⟩) λa95=>St1 (a95.add 6) (.slice t92.a t92.len t92.cap) v30 λv31=>J4 v31:=by
  intro w F1 b1 b2 ew hF1 hw hb1 hb2 hz1 hz2;have y:∀b,F1 b->z<=b/\b<σ.size:=λb d=>hF b (hF1 b d);have hsw:=ew.1;refine WfM J hw O O hb1 (λg=>by have:=y _ g;omega) λs1 v28 H Z=>?_;have L:=(hdCh Z).1;have aa:Sep (ACh A {Y with crow:=s1,cps:=Y.cps++[cp]} (traT A {Y with crow:=s1,cps:=Y.cps++[cp]}) (hdV Y)) v28 (Grow F1 w):=Z;refine⟨L,?_⟩;have c28:Sep (ACh A {Y with crow:=s1,cps:=Y.cps++[cp]} (traT A {Y with crow:=s1,cps:=Y.cps++[cp]}) (hdV Y)) v28 (λb=>F1 b\/w.size<=b):=aa;have R:=H.blk hb2 λg=>by have:=y _ g;omega
  have af:=hb2.lt;refine Wfy c28 aC aC R (λg=>by
   rcases g with g|g
   ·have:=y _ g;omega
   ·omega) λs2 v29 e29 P=>?_
  refine⟨(hdCh P).1,?_⟩;have G:∀b,(F1 b\/w.size<=b)->F b\/σ.size<=b:=λb d=>by
   rcases d with d|d
   ·exact .inl (hF1 b d)
   ·exact .inr O
  have j:Ext F σ v29:=((Ext0.to ew).trans (H.sub hF1)).newT e29 G;have W:=U.keep hC j λb _ d g=>(d1 b d).1 g;have V:=ab.keep hTf j λb _ d g=>(d2 b d).1 g;have hs28:=H.1;refine Wfq (F:=Grow (λb=>F1 b\/w.size<=b) v28) hpos P hlc hlt hc W V (λb d g=>?_) (λb d g=>?_) d3 λw2 Y' e2 p1 p2 p3 p4 h2=>?_
  ·have:=d1 b d;rcases g with(g|g)|g
   ·exact this.1 (hF1 b g)
   ·omega
   ·omega
  ·have:=d2 b d;rcases g with(g|g)|g
   ·exact this.1 (hF1 b g)
   ·omega
   ·omega
  ·refine hK w2 Y' (j.newT e2 λb d=>?_) p1 p2 p3 p4 ((Sep.loc (ACh.loc (λk=>traT.loc k))).mono h2 λb _ d=>?_)
   ·rcases d with(d|d)|d
    ·exact .inl (hF1 b d)
    ·exact .inr O
    ·exact .inr O
   ·have hz0:z<=σ.size:=by have:=(d1 _ hC.fp);omega
    rcases d with(((d|d)|d)|d)|d
    ·exact(y b d).1
    ·omega
    ·omega
    ·exact(d1 b d).2.1
    ·exact(d2 b d).2.1
 have S0:∀{w:Hp},Ext0 σ w->Blk w Y.p (hdV Y):=λe=>e.blk (hdCh h).1 id;refine⟨nw (cs:=[.pointer (some ⟨cp,0,none⟩)]) λv21 z21 u ae=>⟨S0 u,?_,?_⟩,nw (cs:=[.pointer (some ⟨tp,0,none⟩)]) λv32 z32 x b32=>⟨S0 x,nw (cs:=[.pointer (some ⟨cp,0,none⟩)]) λv33 z33 C b33=>⟨S0 (Ext.trans x C),?_⟩⟩⟩
 ·-- row,box,row
  have h21:=chs J h u;refine WfM J h21 O O ae (λg=>by have:=hF _ g;omega) λs1 v22 Q ad=>⟨(hdCh ad).1,?_⟩;have ac:Sep (ACh A {Y with crow:=s1,cps:=Y.cps++[cp]} (traT A {Y with crow:=s1,cps:=Y.cps++[cp]}) (hdV Y)) v22 (Grow F v21):=ad;have c22:=WoB (λk=>traT.loc k) ac;refine nw (cs:=[.pointer (some ⟨tp,0,none⟩)]) λv23 z23 E b23=>?_;have K:=chs (λk=>traT.loc k) c22 E;refine⟨(hdCh K).1,Wfy K aC aC b23 (λg=>by have:=g.2;omega) λs2 v24 e24 N=>⟨(hdCh N).1,?_⟩⟩;have hs22:=Q.1;have hs23:=E.1;have r:∀b,Cut (Grow F v21) v22 b->F b\/σ.size<=b:=λb d=>by
   rcases d.1 with h|h
   ·exact .inl h
   ·exact .inr O
  have j:Ext F σ v24:=((((Ext0.to u).trans Q).trans0 E)).newT e24 r;have X:=U.keep hC j λb _ d g=>(d1 b d).1 g;have M:=ab.keep hTf j λb _ d g=>(d2 b d).1 g;refine Wfq (F:=Grow (Cut (Grow F v21) v22) v23) hpos N hlc hlt hc X M (λb d g=>?_) (λb d g=>?_) d3 λw2 Y' e2 p1 p2 p3 p4 h2=>?_
  ·have:=d1 b d;rcases g with g|g
   ·rcases g.1 with g|g
    ·exact this.1 g
    ·omega
   ·omega
  ·have:=d2 b d;rcases g with g|g
   ·rcases g.1 with g|g
    ·exact this.1 g
    ·omega
   ·omega
  ·refine hK w2 Y' (j.newT e2 λb d=>?_) p1 p2 p3 p4 ((Sep.loc (ACh.loc (λk=>traT.loc k))).mono h2 λb _ d=>?_)
   ·rcases d with d|d
    ·exact r b d
    ·exact .inr O
   ·have hz0:z<=σ.size:=by have:=(d1 _ hC.fp);omega
    rcases d with((d|d)|d)|d
    ·rcases r b d with h|h
     ·exact(hF b h).1
     ·omega
    ·omega
    ·exact(d1 b d).2.1
    ·exact(d2 b d).2.1
 ·-- box,row,row
  refine nw (cs:=[.pointer (some ⟨tp,0,none⟩)]) λv27 z27 B ag=>⟨S0 (Ext.trans u B),?_⟩;exact D v27 F σ.size v21.size (Ext.trans u B) (λb d=>d) (chs J (chs J h u) B) (B.blk ae id) ag (zD _) O
 ·exact D v33 F v32.size σ.size (Ext.trans x C) (λb d=>d) (chs J (chs J h x) C) b33 (C.blk b32 id) O (zD _)
theorem WfX {P:Hp->Rg->Prop}(hl:Lcl P){a:Nat}(h:P σ λb=>a<=b):P σ λb=>a<=b/\b<σ.size:=hl.mono h λb e d=>⟨d,e⟩
theorem WoF {n room:Nat}{tb:List Cls}(h1:32<=n)(h2:n<=1024)(h3:n%16=0)(h4:room<=8)(h5:1<=tb.length)(h6:tb.length<=40)(h7:∀c∈tb,c.ok)(hc:Y.cps.length=tb.length)(ht:Y.tps.length=tb.length):LayOk (newA n room tb) Y:=
 ⟨hc,ht,by simp[newA],by simp[newA],h5,h6,h1,h2,h3,by simp[newA],h4,h7⟩
theorem WnH {s:Sl}{xs:List (Int×Int×Int)}(ha:Acts σ s xs)(hS:SpH3 σ H hs sp)(room:Int){R:Option Addr->Int->Hp->Prop}
 (h0:newE xs sp.st.length room≠0->∀σ',Ext0 σ σ'->R none (newE xs sp.st.length room) σ')
 (h1:newE xs sp.st.length room=0->∀σ' Y,Ext0 σ σ'->Y.hs=hs->AHY σ' (λb=>σ.size<=b) Y (newA sp.st.length room.toNat (xs.map ZV)) (traT (newA sp.st.length room.toNat (xs.map ZV)) Y)->R (some ⟨Y.p,0,none⟩) 0 σ') :
 Q0.c s (some ⟨hs,0,none⟩) room σ R:=by
 refine Q0.o ?_;unfold Q0.v;have hn2:sp.st.length<=1024:=by obtain⟨q,r,l,B,h⟩:=hS;exact h.n2
 refine HJ ha λv e=>?_;cases hv:Qi xs
 ·have e1:newE xs sp.st.length room=2:=by unfold newE;rw[hv];rfl
  have:=h0 (by rw[e1];decide) v e;rw[e1]at this;exact ifT rfl this
 have eE:newE xs sp.st.length room=if 32<=sp.st.length/\sp.st.length%16=0/\0<=room/\room<=8 then 0 else 1:=by unfold newE;rw[hv,zB rfl]
 refine ifF rfl (Wco (hS.keep0 e) ?_);have C:¬(32<=sp.st.length/\sp.st.length%16=0/\0<=room/\room<=8)->R none 1 v:=λhn=>by
  rw[zA hn]at eE;have:=h0 (by rw[eE];decide) v e;rw[eE]at this;exact this
 have tm:(((sp.st.length:Nat):Int).tmod 16)=((sp.st.length%16:Nat):Int):=by rw[Q7 O];simp
 refine JnB.intro (ifD (λc1=>JnB.intro (ifT rfl (JnB.intro (ifT rfl (ifT rfl (C O)))))) λc1=>nz aB ?_);rw[tm,WnP];refine JnB.intro (iff_ (λc2=>JnB.intro (ifT rfl (ifT rfl (C (λh=>by have:=h.2.1;simp[this]at c2))))) λc2=>?_);have c2':sp.st.length%16=0:=by simpa using c2
 refine JnB.intro (ifD (λc3=>ifT rfl (C O)) λc3=>ifD (λc4=>C O) λc4=>?_);obtain⟨U,rfl⟩:=zk (show 0<=room by omega);rw[zB O]at eE;have h1:=h1 eE;simp only[iTn]at h1;have hva:=(Qq xs).1 hv;have L:=YO ha e;have hn1:32<=sp.st.length:=by omega
 generalize sp.st.length=n at *;have hlen:s.len=(xs.map ZV).length:=by rw[za];exact ha.1
 have hcl:∀{σ':Hp} {i:Nat} {c:Cls},Acts σ' s xs->(xs.map ZV)[i]?=some c->xs[i]?=some ((c.size:Int),(c.pages:Int),(c.batch:Int))/\c.ok:=λh M=>UI h hv M;have J:1<=(xs.map ZV).length/\(xs.map ZV).length<=40:=by rw[za];omega
 refine V8 L hv λtab v5 e5 htab=>WmN λW op e6 hop hP=>WeU λA z7 e7 hm=>?_;generalize htbd:xs.map ZV=tb at *;refine nw (cs:=[.slice tab.a tab.len tab.cap,.pointer (some ⟨hs,0,none⟩),.pointer none,.pointer none,.pointer (some ⟨op,0,none⟩),.slice none 0 0,.slice none 0 0,.map (some W.size)]) λv8 z8 e8 b8=>?_;refine Go.Bu.New_ok _ (λg=>absurd ⟨O,O⟩ g) λn' hn' _ _ v9 sb ms e9 hB hfp=>?_;have hnn:n=n':=by omega
 subst hnn;have b9:=e9.blk b8 id;refine nilP (b9.s1 aA λv10 o10 b10=>Wm3 O O c2' λK tp tq S htp htq hTk=>nilP ((S.blk b10 id).s1 aA λv12 Q b12=>?_));have s5:=e5.1;have s6:=e6.1;have s9:=e9.1;have s10:=o10.1;have s11:=S.1;have s12:=Q.1;have hb8:=b8.lt;have x9:Ext (· = A.size) v9 v12:=(o10.ext.trans (Ext0.to S)).trans Q.ext;have x5:Ext (· = A.size) v5 v12:=(Ext0.to (Ext.trans (Ext.trans (Ext.trans e6 e7) e8) e9)).trans x9;have x6:Ext (· = A.size) W v12:=(Ext0.to (Ext.trans (Ext.trans e7 e8) e9)).trans x9;have x7:Ext (· = A.size) A v12:=(Ext0.to (Ext.trans e8 e9)).trans x9;have x11:Ext (· = A.size) K v12:=Q.ext;have p1:=aH.keep (WfX aH htab) x5 λb _ g d=>by omega
 have p2:=(PmH.loc (p:=op) (ow:=λ_=>0)).keep (WfX PmH.loc hP) x6 λb _ g d=>by omega
 have p3:MapL v12 W.size .i64 bN []:=x7.mapL (hm _ _) O;have p5:WeG v8.size n Go.Bu.emptyS v12 (λb=>v8.size<=b/\b<v9.size):=(WeG.loc _ _ _).keep (WfX (WeG.loc _ _ _) ⟨sb,ms,hB,hfp⟩) x9 λb _ g d=>by omega
 have p6:TrkR tp (List.replicate n 0) v12 (λb=>v10.size<=b/\b<K.size):=(TrkR.loc _ _).keep (WfX (TrkR.loc _ _) ⟨tq,hTk,htp,htq⟩) x11 λb _ g d=>by omega
 let Y0:Lay:={p:=A.size,hs:=hs,fr:=v8.size,tr:=tp,op:=op,rn:=W.size,tab:=tab,crow:=⟨none,0,0⟩,trow:=⟨none,0,0⟩,cps:=[],tps:=[]}
 have aa:Blk v12 A.size (hdV Y0):=b12
 let Cf:=ACh (newP n U tb 0) Y0 (traT (newP n U tb 0) Y0) (hdV Y0)
 have u:∀i,Lcl (Cf i):=ACh.loc λk=>traT.loc k;have q0:Sep (Prt Cf S0) v12 λ_=>False:=Prt.one S0 .hd λi V=>by
  cases i<;>first|exact V.elim|exact RowR.nil _ _ _ _|exact trivial
 have q1:=Prt.put u q0 .tab (G:=λb=>v.size<=b/\b<v5.size) (λb g d=>d) p1;have q2:=Prt.put u q1 .own (G:=λb=>v5.size<=b/\b<W.size) (λb g d=>by
  rcases d with d|d
  ·exact d
  ·omega) p2
 have q3:=Prt.put u q2 .runs (G:=λb=>b=W.size) (λb g d=>by
  rcases d with(d|d)|d
  ·exact d
  ·omega
  ·omega) ⟨rfl,p3⟩
 have q4:=Prt.put u q3 .hd (G:=λb=>b=A.size) (λb g d=>by
  rcases d with((d|d)|d)|d
  ·exact d
  ·omega
  ·omega
  ·omega) ⟨rfl,aa⟩
 have q5:=Prt.put u q4 .free (G:=λb=>v8.size<=b/\b<v9.size) (λb g d=>by
  rcases d with(((d|d)|d)|d)|d
  ·exact d
  ·omega
  ·omega
  ·omega
  ·omega) p5
 have q6:=Prt.put u q5 .trk (G:=λb=>v10.size<=b/\b<K.size) (λb g d=>by
  rcases d with((((d|d)|d)|d)|d)|d
  ·exact d
  ·omega
  ·omega
  ·omega
  ·omega
  ·omega) p6
 have q7:Sep Cf v12 λb=>v.size<=b:=by
  refine(Sep.loc u).mono (Prt.all q6 λi=>?_) λb _ d=>?_
  ·cases i<;>simp[S0]
  ·rcases d with(((((d|d)|d)|d)|d)|d)|d
   ·exact d.elim
   ·omega
   ·omega
   ·omega
   ·omega
   ·omega
   ·omega
 have e12:Ext0 v v12:=Ext.fresh e5 x5 λi V=>by omega
 have szv:=e.1;refine ZS (a:=bN) (λ(t:Int) w=>∃(i:Nat) (Y:Lay),t=(i:Int)/\i<=tb.length/\Y.p=A.size/\Y.hs=hs/\Y.cps.length=i/\Y.tps.length=i/\Ext0 v w/\Sep (ACh (newP n U tb i) Y (traT (newP n U tb i) Y) (hdV Y)) w (λb=>v.size<=b)) (λt _=>tb.length-t.toNat)
  ⟨0,Y0,rfl,O,rfl,rfl,rfl,rfl,e12,q7⟩ ?_
 rintro t w ⟨i,Y,rfl,V,hYp,X,ab,hYt,ew,y⟩;refine ifD (λhlt=>?_) λhge=>?_
 ·have hi':i<tb.length:=by omega
  have M:tb[i]?=some tb[i]:=gGe hi';generalize tb[i]=c at M;have haw:=YO L ew;obtain⟨hxi,hok⟩:=hcl haw M;refine UV haw hxi ?_;refine nw (cs:=[.int .i64 0,.int .i64 0,.int .i64 0]) λv14 hz14 e14 b14=>b14.s1 aA λv15 o15 b15=>b15.s1 aA λv16 o16 b16=>b16.s1 aA λv17 o17 b17=>?_;have P:Ext0 w v17:=Ext.fresh (Ext.fresh (Ext.fresh e14 o15.ext λi V=>O) o16.ext λi V=>O) o17.ext λi V=>by omega
  have x:Blk v17 w.size [.int .i64 (c.size:Int),.int .i64 (c.pages:Int),.int .i64 (c.batch:Int)]:=b17;refine x.rI rfl (x.rI rfl (x.rI rfl (Wna hok λv18 cp D hcp1 hcp2 hCe=>?_)));have b18:=D.blk x id;obtain⟨_,_,_,_,_,_,hbt1,Z⟩:=id hok;refine b18.rI rfl (WnF hbt1 Z O λv19 tp2 E htp1 htp2 hTf=>Jn.intro ?_);have s14:=P.1;have s18:=D.1;have s19:=E.1;have sw:=ew.1;have hT:∀k,Lcl (traT (newP n U tb i) Y k):=λk=>traT.loc k;have h19:=chs hT (chs hT (chs hT (WoB hT y) P) D) E;have N:=hCe.keep0 E;rw[←hYp];refine Wo4 (F:=Cut (λb=>v.size<=b) w) (z:=v.size) (ss:=[]) (t:=⟨0,[]⟩) (λb g=>⟨g.1,by have:=g.2;omega⟩) ⟨ab,hYt⟩ O h19 (by simp[newP]) (by simp[newP]) M N hTf (λb g=>?_) (λb g=>?_) (λb g hb2=>O) λw2 Y' e2 y1 y2 y3 y4 h2=>?_
  ·subst g;exact⟨λd=>by have:=d.2;omega,O,O⟩
  ·subst g;exact⟨λd=>by have:=d.2;omega,O,O⟩
  ·rw[Wh1]at h2;exact arN (m:=i+1) O O ⟨⟨i+1,Y',rfl,O,y1,y2.trans X,y3,y4,Ext.fresh (Ext.trans (Ext.trans (Ext.trans ew P) D) E) e2 λb g=>g.1,h2⟩,O⟩
 ·have:i=tb.length:=by omega
  subst this;rw[Wkk,WoN]at y;have hl:LayOk (newA n U tb) Y:=WoF hn1 hn2 c2' O J.1 J.2 (λc M=>by
   obtain⟨j,hj⟩:=zN M;exact(hcl L hj).2) ab hYt
  have:=h1 w Y (Ext.trans e ew) X ⟨hl,λk=>traT.loc k,(Sep.loc (AC.loc λk=>traT.loc k)).mono y λb _ g=>zI szv g⟩;rw[hYp]at this;exact this
end Go.Ar
namespace Go.Vc
open Go
variable {σ:Hp}{F:Rg}{s:Sl}{sz:Nat}{xs:List Value}
def RowO (s:Sl)(sz:Nat)(xs:List Value):Hp->Rg->Prop:=λh F=>xs.length=s.len*sz/\(s.len=0/\s.cap=0\/∃b o cs,F b/\s.a=some ⟨b,o,none⟩/\Blk h b cs/\s.len<=s.cap/\cs.length=o+s.cap*sz/\(cs.drop o).take xs.length=xs)
theorem RowO.loc (s:Sl)(sz:Nat)(xs:List Value):Lcl (RowO s sz xs):=λσ d F G h g a=>by
 refine⟨h.1,h.2.imp id ?_⟩;rintro⟨b,o,cs,hq,ha,⟨e,he⟩,r⟩;have:=a b (Blk.lt ⟨e,he⟩) hq;exact⟨b,o,cs,this.1,ha,⟨e,this.2.trans he⟩,r⟩
theorem RowO.nil (h:Hp)(F:Rg)(sz:Nat)(a:Option Addr):RowO ⟨a,0,0⟩ sz [] h F:=⟨by simp,.inl ⟨rfl,rfl⟩⟩
theorem RowR.o (h:RowR s sz xs σ F):RowO s sz xs σ F:=⟨h.1,h.2.imp id λ⟨b,d,e,g,i,a,j,m⟩=>⟨b,0,d,e,g,i,a,O,by simpa using m⟩⟩
theorem RowO.slR (h:RowO s sz xs σ F):SlR s sz xs σ F:=by
 refine⟨h.1,?_⟩;rcases h.2 with⟨hl,_⟩|⟨b,o,cs,hq,ha,hb,_,_,ht⟩
 ·left;have:=h.1;rw[hl]at this;simpa using this
 ·refine .inr ⟨b,o,cs,hq,ha,hb.q,λj a=>?_⟩;rw[←ht,zX,zn,zB a]
theorem RowO.cap (h:RowO s sz xs σ F):s.len<=s.cap:=by
 rcases h.2 with⟨q1,q2⟩|⟨_,_,_,_,_,_,q,_⟩
 ·omega
 ·exact q
theorem RowO.app {x:Sl}{bytes e:Nat}{zs ys:List Value}{K:Sl->Hp->Prop}(ho:RowO s sz xs σ F)(hz:zs.length=sz)
 (hy:ys.length=x.len*sz) (hr:Rd σ x.a ys) (h1:∀v∈ys,one1 v=true) (hb:(s.len+x.len)*bytes<=2^46) (hc:s.len+x.len<=2^62)
 (hx:0<x.len) (hK:∀s' h',s'.len=s.len+x.len->Ext F σ h'->RowO s' sz (xs++ys) h' (Grow F σ)->K s' h'):App s sz bytes e zs x σ K:=by
 refine⟨xs,ys,ho.1,hy,ho.slR.rd,hr,h1,hb,hc,λg=>?_,λr c m=>?_⟩
 ·rcases ho.2 with⟨hl,hcap⟩|⟨b,o,cs,hQ,ha,hk,hle,hcl,ht⟩
  ·omega
  ·rw[ha];simp only;rw[add_lit];have u:(s.len+x.len)*sz<=s.cap*sz:=zAJ _ g;rw[zj]at u;have d:=ho.1;refine VY hk O λh' p i=>hK _ h' rfl (Ext.of_only p hQ) ⟨?_,.inr ⟨b,o,_,.inl hQ,rfl,i,g,?_,?_⟩⟩
   ·simp[d,hy,zj]
   ·simp;omega
   ·rw[zK,d,zp];have w:(cs.take (o+s.len*sz)++ys++cs.drop (o+s.len*sz+ys.length)).drop o=(cs.drop o).take (s.len*sz)++(ys++cs.drop (o+s.len*sz+ys.length)):=by
     rw[zz,List.drop_append_of_le_length (by rw[zO];omega),List.drop_take]
     congr 2;omega
    have j:(cs.drop o).take (s.len*sz)=xs:=by rw[←d];exact ht
    rw[w,j,←zz,zBX aE,zAZ aE]
 ·refine hK _ _ rfl (Ext.push _ _ _) ⟨by simp[ho.1,hy,zj],.inr ⟨σ.size,0,xs++ys++(List.replicate (c-(s.len+x.len)) zs).flatten,.inr (zD _),rfl,⟨e,by simp⟩,m,?_,?_⟩⟩
  ·simp only[zK,zEB,zDH,zEC,ho.1,hy,hz,←zj];rw[zG];congr 1;omega
  ·rw[List.drop_zero,zBX aA,zAZ aA]
theorem RowO.app0 {x:Sl}{bytes e:Nat}{zs:List Value}{K:Sl->Hp->Prop}(ho:RowO s sz xs σ F)(hx:x.len=0)(hb:s.len*bytes<=2^46)(hc:s.len<=2^62)(hK:RowO ⟨s.a,s.len,s.cap⟩ sz xs σ F->K ⟨s.a,s.len,s.cap⟩ σ):App s sz bytes e zs x σ K:=by
 have d:=ho.cap;refine⟨xs,[],ho.1,by simp[hx],ho.slR.rd,by cases x.a<;>simp[Rd],by simp,by rw[hx];exact hb,O,λg=>?_,λb=>absurd O b⟩
 rw[hx];have:=hK ho;cases ha:s.a<;>(rw[ha]at this;exact this)
theorem RowO.from (h:RowO s sz xs σ F){lo:Nat}(h1:lo<=s.len):RowO ⟨if s.cap=lo then s.a else s.a.map (·.add (lo*sz)),s.len-lo,s.cap-lo⟩ sz (xs.drop (lo*sz)) σ F:=by
 have d:=h.1;refine⟨by rw[zq,d,Nat.sub_mul],?_⟩;rcases h.2 with⟨q1,q2⟩|⟨b,o,cs,hq,ha,hb,hle,hcl,ht⟩
 ·left;simp only;omega
 ·by_cases hm:s.cap=lo
  ·left;simp only;omega
  ·refine .inr ⟨b,o+lo*sz,cs,hq,by simp only[zA hm,ha,zg,add_lit],hb,by simp only;omega,?_,?_⟩
   ·have:lo*sz<=s.cap*sz:=zAJ _ O;rw[hcl,Nat.sub_mul];omega
   ·rw[zq]
    conv=>rhs;rw[←ht]
    rw[List.drop_take,List.drop_drop]
end Go.Vc
namespace Go.Ar
open Go Go.Vc Go.Proofs
variable {σ:Hp}{F G:Rg}{Y:LayC}{tb:List Cls}{bud:Nat}{ls:List Li}{b k:Nat}{l:Li}{c:Cls}
theorem Wmp {s:Sl}{xs:List (Int×Int×Int)}(ha:Acts σ s xs)(budget:Int){R:Option Addr->Int->Hp->Prop}(h0:Qi xs=false->∀σ',Ext0 σ σ'->R none 2 σ')
 (h1:Qi xs=true->¬(0<=budget/\budget<=65536)->∀σ',Ext0 σ σ'->R none 1 σ')
 (h2:Qi xs=true->0<=budget->budget<=65536->∀σ' Y,Ext0 σ σ'->CaY σ' (λq=>σ.size<=q) Y (xs.map ZV) budget.toNat (List.replicate (xs.map ZV).length liN)->R (some ⟨Y.p,0,none⟩) 0 σ') :
 Q1.c s budget σ R:=by
 refine Q1.o ?_;unfold Q1.v;refine HJ ha λv e=>?_;cases hv:Qi xs
 ·exact ifT rfl (h0 hv v e)
 refine ifF rfl (JnB.intro (ifD (λz=>ifT rfl (h1 hv O v e)) λz=>ifD (λB=>h1 hv O v e) λB=>?_));have d:=YO ha e;have y:=(Qq xs).1 hv;refine V8 d hv λtab b u j=>WeU λg J r A=>nw (cs:=[.slice tab.a tab.len tab.cap,.int .i64 budget,.map (some b.size)]) λv3 H m F=>?_;have s1:=u.1;have s0:=e.1;refine h2 hv O O v3 ⟨g.size,b.size,tab,[]⟩ (((e.trans u).trans r).trans m) ⟨by rw[za];omega,λc D=>?_,by simp,by simp,?_⟩
 ·obtain⟨i,C⟩:=zN D;exact(UI d hv C).2
 ·refine⟨λq=>if q=g.size then .hd else if q=b.size then .mp else .tab,λi=>?_⟩
  cases i with
  | hd=>
   refine⟨⟨by show σ.size<=g.size;omega,by simp⟩,?_⟩;have:((budget.toNat:Nat):Int)=budget:=by omega
   simp only[hdC,this];exact F
  | mp=>
   refine⟨⟨by show σ.size<=b.size;omega,?_⟩,m.mapL (A .i64 .p) id⟩;show(if b.size=g.size then LbC.hd else if b.size=b.size then LbC.mp else LbC.tab)=.mp
   rw[zA O,zB rfl]
  | tab=>
   have E:=aH.keep0 (aH.keep0 (aH.mono j (G:=λq=>v.size<=q/\q<b.size) λq w x=>⟨x,w⟩) r) m;refine aH.mono E λq _ w=>⟨O,?_⟩;show(if q=g.size then LbC.hd else if q=b.size then LbC.mp else LbC.tab)=.tab
   rw[zA O,zA O]
  | li k=>
   simp only[CC,LiK,lkp,List.find?_nil,Option.map_none];cases hk:(List.replicate (xs.map ZV).length liN)[k]? with
   | none=>trivial
   | some l=>simp only[zAU]at hk;split at hk<;>simp_all
def sumK (f:Nat->Nat)(l:List (Int×Option Addr)):Nat:=(l.map λx=>f x.1.toNat).sum
theorem WfV (f:Nat->Nat):∀{l:List (Int×Option Addr)} {n:Int} {x:Option Addr},(l.map (·.1)).Nodup->(n,x)∈l->sumK f l=f n.toNat+sumK f (l.filter λy=>!(y.1==n))
 | [],_,_,_,h=>by simp at h
 | y::l,n,x,hn,h=>by
  simp only[zJ,zo]at hn;rcases zQ.1 h with h1|h1
  ·subst h1;have:l.filter (λy=>!(y.1==n))=l:=by
    rw[zBK];intro z hz;have:z.1≠n:=λe=>hn.1 (zC.2 ⟨z,hz,e⟩);simpa using this
   rw[zDL aA,this];simp[sumK]
  ·have a:y.1≠n:=λe=>hn.1 (zC.2 ⟨_,h1,e.symm⟩);rw[zDM (by simpa using a)];have:=WfV f hn.2 h1;simp only[sumK,zJ,zr]at *;omega
theorem WnT (n a v:Nat):((List.range n).map λj=>if j=a then v else 0).sum=if a<n then v else 0:=by
 induction n with
 | zero=>simp
 | succ n ih=>
  rw[zAB,zAD,zDK,ih];by_cases h:a=n
  ·subst h;simp
  ·by_cases h2:a<n
   ·rw[zB h2,zB O];simp[Ne.symm h]
   ·rw[zA h2,zA O];simp[Ne.symm h]
theorem WmL (l:List Nat)(f g:Nat->Nat):(l.map λj=>f j+g j).sum=(l.map f).sum+(l.map g).sum:=by
 induction l with
 | nil=>rfl
 | cons x l ih=>simp only[zJ,zr,ih];omega
theorem Wft (f:Nat->Nat)(n:Nat):∀(ps:List (Nat×Nat)),(ps.map (·.1)).Nodup->(∀x∈ps,x.1<n)->(ps.map λx=>f x.1).sum=((List.range n).map λj=>if j∈ps.map (·.1)then f j else 0).sum
 | [],_,_=>by
  have:((List.range n).map λj=>if j∈([]:List (Nat×Nat)).map (·.1)then f j else 0)=(List.range n).map λ_=>0:=by simp
  rw[this]
  induction n with
  | zero=>rfl
  | succ n a=>rw[zAB,zAD,zDK];simp at *;exact a
 | x::ps,hn,hl=>by
  simp only[zJ,zo]at hn;have a:=Wft f n ps hn.2 λy b=>hl y (by simp[b]);rw[zJ,zr,a];have e:((List.range n).map λj=>if j∈(x::ps).map (·.1)then f j else 0)=(List.range n).map λj=>(if j=x.1 then f x.1 else 0)+(if j∈ps.map (·.1)then f j else 0):=by
   apply zAH;intro j _;by_cases hj:j=x.1
   ·subst hj;rw[zB aA,zB rfl,zA hn.1];rfl
   ·rw[zA hj,zG];by_cases hm:j∈ps.map (·.1)
    ·rw[zB hm,zB (by simp only[zJ,zQ];exact .inr hm)]
    ·rw[zA hm,zA (by simp only[zJ,zQ,not_or];exact⟨hj,hm⟩)]
  rw[e,WmL,WnT,zB (hl x aA)]
def byK (tb:List Cls)(ls:List Li)(k:Nat):Nat:=match tb[k]?,ls[k]? with
 | some c,some l=>c.size*l.os.length
 | _,_=>0
theorem WaZ:∀(tb:List Cls) (ls:List Li),ls.length=tb.length->Qt tb ls=((List.range tb.length).map (byK tb ls)).sum
 | [],[],_=>rfl
 | c::tb,l::ls,h=>by
  have ih:=WaZ tb ls (by simpa using h);simp only[Qt]at ih;simp only[Qt,zGV,zJ,zr,zP,ih,zFR,zAC];rfl
 | [],_::_,h=>by simp at h
 | _::_,[],h=>by simp at h
theorem CaY.nil (h:CaY σ F Y tb bud ls)(hf:lkp Y.ps k=none)(hl:ls[k]?=some l):l=liN:=by
 obtain⟨G,_,a⟩:=h.sep.get (.li k);simp only[CC,LiK,hf,hl]at a;exact a
theorem CaY.keysN (h:CaY σ F Y tb bud ls):(Y.ps.map (·.1)).Nodup:=by
 have:=h.map.nodup;have e:(ptI Y.ps).map (·.1)=(Y.ps.map (·.1)).map λ(n:Nat)=>(n:Int):=by simp[ptI]
 rw[e]at this;exact List.Pairwise.of_map (λ(n:Nat)=>(n:Int)) (λa b d e=>d (by rw[e])) this
theorem CaY.bytes (h:CaY σ F Y tb bud ls):sumK (byK tb ls) (ptI Y.ps)=Qt tb ls:=by
 have d:sumK (byK tb ls) (ptI Y.ps)=(Y.ps.map λx=>byK tb ls x.1).sum:=by simp[sumK,ptI,Function.comp_def]
 rw[d,Wft _ tb.length _ h.keysN h.keys,WaZ _ _ h.len]
 congr 1
 apply zAH;intro j hj;have a:=zU.1 hj;by_cases hm:j∈Y.ps.map (·.1)
 ·rw[zB hm]
 ·rw[zA hm];have g:lkp Y.ps j=none:=by
   unfold lkp;simp only[zCO,zBM,zZ];exact λx i e=>hm (zC.2 ⟨x,i,e⟩)
  have b:ls[j]?=some (ls[j]'(by rw[h.len];exact a)):=gGe _;have:=h.nil g b;unfold byK;rw[gGe a,b,this];rfl
theorem WcW:∀(tb:List Cls) (ls:List Li),(∀c∈tb,c.ok)->(∀l∈ls,LiOk l)->Qt tb ls<=tb.length*131072
 | [],_,_,_=>by simp[Qt]
 | _::_,[],_,_=>by simp[Qt]
 | c::tb,l::ls,h1,h2=>by
  have ih:=WcW tb ls (λc a=>h1 c (by simp[a])) (λl d=>h2 l (by simp[d]));simp only[Qt]at ih;simp only[Qt,zGV,zJ,zr,zP];have a:=h1 c aA;unfold Cls.ok at a;have b:=(h2 l aA).many;have e:c.size*l.os.length<=512*256:=zAF O b;omega
theorem Wdv (h:CaY σ F Y tb bud ls)(hok:∀l∈ls,LiOk l):Qt tb ls<=5242880:=by
 have a:=WcW tb ls h.ok hok;have b:=h.tb1;omega
theorem CaY.lok (h:CaY σ F Y tb bud ls):∀l∈ls,LiOk l:=by
 intro l hl;obtain⟨k,a⟩:=zN hl;cases hf:lkp Y.ps k with
 | none=>rw[h.nil hf a];exact LiOk.nil
 | some b=>
  obtain⟨G,_,d,_⟩:=h.liS hf a;exact d.2.1
theorem WcH (h:CaY σ F Y tb bud ls){R:aN}(hR:∀σ',Ext0 σ σ'->R ((Qt tb ls:Nat):Int) σ'):Xv.c (aW Y.p) σ R:=by
 refine Xv.o ?_;unfold Xv.v;have hle:=Wdv h h.lok;have hT:=h.bytes;refine HD h (ifF rfl (nilP (h.hd.rM rfl ?_)));refine rng1 (a:=bN) h.map (λg (z:Int) v=>∃n:Nat,z=(n:Int)/\n+sumK (byK tb ls) g=Qt tb ls/\(∀e∈g,e∈ptI Y.ps)/\(g.map (·.1)).Nodup/\Ext0 σ v) ?_ ?_ ?_
 ·intro v hz e;exact⟨0,rfl,by rw[hT];omega,λe he=>he,h.map.nodup,e⟩
 ·rintro z v ⟨n,rfl,E,_,_,e⟩;simp only[sumK,zCC,List.sum_nil,zp]at E;rw[E];exact hR v e
 ·rintro g n x z v v' J ⟨m,rfl,E,u,C,e⟩ X ho hlt hJ;have W:Ext0 σ v':=e.only ho (.inr (zD _));have Q:=h.keep0 W;have r:=u _ X;simp only[ptI,zC,Prod.mk.injEq]at r;obtain⟨⟨k,b⟩,A,D,w⟩:=r;simp only at D w;subst D;subst w;have H:=h.keys _ A;simp only at H;have M:tb[k]?=some tb[k]:=gGe H;have N:ls[k]?=some (ls[k]'(by rw[h.len];exact H)):=gGe _;generalize tb[k]=c at M;generalize (ls[k]'(by rw[h.len];exact H))=l at N;have S:lkp Y.ps k=some b:=WlP h.map.nodup A;obtain⟨G,hG,hL,_⟩:=Q.liS S N;obtain⟨_,hok,s,L,K,U⟩:=hL;have P:s.len=l.os.length:=by have:=K.1;simp[Wv]at this;omega
  have hb:byK tb ls k=c.size*l.os.length:=by unfold byK;rw[M,N]
  have j:=WfV (byK tb ls) C X;simp only[iTn]at j;refine nilP (Q.hd.rS rfl (WaK Q.tabS M (d:=0) O ?_));simp only[zS];refine nilP (L.rS rfl ?_);have B:m+c.size*l.os.length+sumK (byK tb ls) (List.filter (λy=>!(y.1==(k:Int))) g)=Qt tb ls:=by
   have V:=j;rw[hb]at V;rw[←E,V,zCF]
  refine arN (m:=c.size*l.os.length) (by simp only[P];simp) O (arN (m:=m+c.size*l.os.length) O O (hJ _ v' rfl rfl ⟨_,rfl,B,λy Z=>u y (zH.1 Z).1,C.sublist (List.filter_sublist.map _),W⟩))
theorem Wmb (h:CaY σ F Y tb bud ls){R:aO}(hR:∀σ',Ext0 σ σ'->R (decide (bud<Qt tb ls)) σ'):Ym.c (aW Y.p) σ R:=by
 refine Ym.o ?_;unfold Ym.v;have e:decide (((Qt tb ls:Nat):Int)>(bud:Int))=decide (bud<Qt tb ls):=by rw[decide_eq_decide];omega
 refine Jn.intro (HD h (ifT rfl (nilP ⟨WcH h λσ' a=>(a.blk h.hd id).rI rfl ?_,h.hd.rI rfl (WcH h λσ' a=>?_)⟩)))
 ·rw[e];exact hR σ' a
 ·rw[e];exact hR σ' a
def WnG (f:Cls->Li->List Int×Li)(fn:Nat):Prop:=∀{σ:Hp} {G:Rg} {b:Nat} {l:Li} {c:Cls},LiR b l σ G->c.ok->∀{R:Sl->Hp->Prop},
 (∀s z σ',Ext (· = b) σ σ'->σ.size<=z->RowR s 1 (Wv (f c l).1) σ' (λq=>σ.size<=q/\q<z)->LiR b (f c l).2 σ' (λq=>q=b\/z<=q)->R s σ') →
 VK Tryz.prog ⟨fn,#[],#[]⟩ [.pointer (some ⟨b,0,none⟩),.int .i64 (c.batch:Int)] [.one .s] σ R
theorem WiC:WnG ZX 223:=by
 intro σ G b l c h hc R hR;refine Gr (all := #[.pointer (some ⟨b,0,none⟩),.int .i64 (c.batch:Int)]) (by kernel_rfl) aA ?_;refine YH.o ?_;unfold YH.v;have j:=h;obtain⟨_,i,s,d,a,g⟩:=h;have e:s.len=l.os.length:=by have:=a.1;simp[Wv]at this;omega
 refine nilP (d.rS rfl ?_);simp only[e];exact Ge j (zD _) hR
theorem WkJ:WnG KJ 221:=by
 intro σ G b l c h hc R hR;refine Gr (all := #[.pointer (some ⟨b,0,none⟩),.int .i64 (c.batch:Int)]) (by kernel_rfl) aA ?_;refine XG.o ?_;unfold XG.v;have S:=h;obtain⟨_,g,s,p,M,H⟩:=h;have o1:=g.low;have o2:=g.many;have o3:=g.lim;have u:=Wfb hc g;unfold Cls.ok at hc;refine nilP (p.rI rfl (arN (m:=l.low+1) O O (nz aB (arN (m:=(l.low+1)/2) (by rw[YM O];omega) O ?_))));refine Ge S O λout z v e U N w=>?_;have J:=w;obtain⟨_,Q,s1,d,y,B⟩:=w;have x:s1.len=(oldL ((l.low+1)/2) l).2.os.length:=by have:=y.1;simp[Wv]at this;omega
 refine Jn.intro ?_;have rest:∀(i:Hp) (lim:Nat),Ext (· = b) v i->lim=(if l.lim>c.batch then max (l.lim-c.batch) c.batch else l.lim)->Blk i b (liV s1 {(oldL ((l.low+1)/2) l).2 with lim:=lim}) →
  NilP (some ⟨b,0,none⟩) λC=>LdS (C.add 0) i λD=>NilP (some ⟨b,0,none⟩) λF=>St1 (F.add 2) (.int .i64 ((D.len:Nat):Int)) i λv2=>R out v2:=by
  intro i lim e1 hlim a;refine nilP (a.rS rfl (nilP (a.s1 (by simp[liV]) λv2 o2 r=>?_)));have A:=e1.trans o2.ext;have P:=d.lt;refine hR out z v2 (e.trans A) U (aI.keep N A λq _ L K=>?_) ?_
  ·have:=p.lt;omega
  ·refine⟨.inl rfl,u,s1,?_,aH.keep y A λq _ L K=>L.2 K,B⟩;simp only[x]at r;subst hlim;exact r
 refine nilP (d.rI rfl ?_);refine ifD (λE=>?_) λE=>?_
 ·have j:l.lim>c.batch:=by simp only[oldL]at E;omega
  refine nilP (d.rI rfl (arN (m:=l.lim-c.batch) (by simp only[oldL];omega) O (nilP (d.s1 (by simp[liV]) λi o1 a=>rest i (max (l.lim-c.batch) c.batch) o1.ext (by rw[zB j]) ?_))));have:(if(c.batch:Int)>((l.lim-c.batch:Nat):Int)then(c.batch:Int)else((l.lim-c.batch:Nat):Int))=((max (l.lim-c.batch) c.batch:Nat):Int):=by split<;>omega
  rw[this]at a;exact a
 ·have j:¬l.lim>c.batch:=by simp only[oldL]at E;omega
  exact rest v l.lim (Ext.refl _ _) (by rw[zA j]) d
def btV (x:Nat×Sl):List Value:=[.int .i64 (x.1:Int),.slice x.2.a x.2.len x.2.cap]
def btsV (l:List (Nat×Sl)):List Value:=l.flatMap btV
theorem KC (l:List (Nat×Sl)):(btsV l).length=l.length*2:=by
 induction l with
 | nil=>rfl
 | cons x l ih=>
  have e:btsV (x::l)=btV x++btsV l:=rfl;have a:(btV x).length=2:=rfl;rw[e,zK,ih,a,zP];omega
theorem UX (a b:List (Nat×Sl)):btsV (a++b)=btsV a++btsV b:=by simp[btsV]
theorem Hm {l:List (Nat×Sl)}:∀v∈btsV l,one1 v=true:=by
 intro v hv;obtain⟨p,_,a⟩:=zCP.1 hv;simp only[btV,zQ,List.not_mem_nil,or_false]at a;rcases a with rfl|rfl<;>rfl
theorem Wll {l:List (Nat×Sl)}{i:Nat}{p:Nat×Sl}(h:l[i]?=some p){d:Nat}(hd:d<2):(btsV l)[2*i+d]?=(btV p)[d]? := by
 induction l generalizing i with
 | nil=>simp at h
 | cons x l ih=>
  have e:btsV (x::l)=btV x++btsV l:=rfl;have a:(btV x).length=2:=rfl;rw[e];cases i with
  | zero=>
   simp at h;subst h;rw[ze O];congr 1;omega
  | succ i=>
   rw[zm O,a,show 2*(i+1)+d-2=2*i+d by omega];exact ih (by simpa using h)
def BtO (ps:List (Nat×Sl))(bs:List Bt)(σ:Hp)(D:Rg):Prop:=ps.length=bs.length/\∀(i:Nat) p x,ps[i]?=some p->bs[i]?=some x->p.1=x.1/\SlR p.2 1 (Wv x.2) σ D/\p.2.len<=p.2.cap
theorem BtO.loc (ps:List (Nat×Sl))(bs:List Bt):Lcl (BtO ps bs):=λσ g F G h d e=>⟨h.1,λi p x b a=>⟨(h.2 i p x b a).1,SlR.loc _ _ _ _ _ _ _ (h.2 i p x b a).2.1 d e,(h.2 i p x b a).2.2⟩⟩
def Djp (ps:List (Nat×Sl)):Prop:=ps.Pairwise λp q=>∀a a',p.2.a=some a->q.2.a=some a'->a.block≠a'.block
theorem Djp.snoc {ps:List (Nat×Sl)}{bs:List Bt}{σ v:Hp}{D X:Rg}{s:Sl}{xs:List Int}(h:Djp ps)(hB:BtO ps bs σ D)(hne:∀x∈bs,x.2≠[])(hs:SlR s 1 (Wv xs) v X)(hx:xs≠[])(hd:∀b,b<σ.size->D b->¬X b)(k:Nat):Djp (ps++[(k,s)]):=by
 refine zBT.2 ⟨h,List.pairwise_singleton _ _,λp z q u=>?_⟩;rw[zV]at u;subst u;intro a a' h1 h2 e;obtain⟨i,r⟩:=zN z;have d:=(gSi.1 r).1;have g:bs[i]?=some (bs[i]'(by rw[←hB.1];exact d)):=gGe _;generalize (bs[i]'(by rw[←hB.1];exact d))=y at g;obtain⟨_,j,_⟩:=hB.2 i p y r g;have m:=j.blk (by simpa[Wv]using hne y (zE g)) ⟨a,h1,rfl⟩;have w:=hs.blk (by simpa[Wv]using hx) ⟨a',h2,rfl⟩;rw[e]at m;exact hd _ m.2 m.1 w.1
def BtR (s:Sl)(bs:List Bt):Hp->Rg->Prop:=λσ F=>∃(ps:List (Nat×Sl)) (D:Rg),RowO s 2 (btsV ps) σ (λq=>F q/\¬D q)/\BtO ps bs σ D/\(∀q,D q->F q)/\Djp ps/\∀x∈bs,x.2≠[]
theorem BtR.loc (s:Sl)(bs:List Bt):Lcl (BtR s bs):=λσ r F G ⟨i,D,m,j,e,p⟩ g b=>
 ⟨i,λq=>D q/\q<σ.size,RowO.loc _ _ _ _ _ _ _ m g λq a d=>⟨⟨(b q a d.1).1,λhd=>d.2 hd.1⟩,(b q a d.1).2⟩,BtO.loc _ _ _ _ _ _ j g λq a hd=>⟨⟨hd,a⟩,(b q a (e q hd)).2⟩,λq a=>(b q a.2 (e q a.1)).1,p⟩
theorem BtR.nil (σ:Hp)(F:Rg)(a:Option Addr):BtR ⟨a,0,0⟩ [] σ F:=⟨[],λ_=>False,RowO.nil _ _ _ _,⟨rfl,λi p x h=>by simp at h⟩,λq h=>h.elim,List.Pairwise.nil,by simp⟩
theorem BtR.len {s:Sl}{bs:List Bt}(h:BtR s bs σ F):s.len=bs.length:=by
 obtain⟨d,D,b,a,_⟩:=h;have:=b.1;rw[KC]at this;have:=a.1;omega
theorem BtR.cap {s:Sl}{bs:List Bt}(h:BtR s bs σ F):s.len<=s.cap:=by
 obtain⟨b,D,a,_⟩:=h;exact a.cap
def HY:Prop:=∀{σ:Hp} {F:Rg} {s:Sl} {xs:List (Nat×Sl)},RowR s 2 (btsV xs) σ F->(∀x∈xs,x.1<64)->xs.length<=1000->∀{R:aP},
 (∀xs' σ',xs'.Perm xs->xs'.Pairwise (λa b=>a.1<=b.1)->Ext F σ σ'->RowR s 2 (btsV xs') σ' F->R σ')->Z0.c s ⟨262,#[],#[]⟩ σ R
theorem WlQ:∀{a b:List Nat},a.Pairwise (· < ·)->b.Pairwise (· < ·)->(∀x,x∈a↔x∈b)->a=b
 | [],[],_,_,_=>rfl
 | [],y::b,_,_,h=>by have:=(h y).2 aA;simp at this
 | x::a,[],_,_,h=>by have:=(h x).1 aA;simp at this
 | x::a,y::b,ha,hb,h=>by
  rw[zAR]at ha hb;have e:x=y:=by
   rcases zQ.1 ((h x).1 aA)with h1|h1
   ·exact h1
   ·rcases zQ.1 ((h y).2 aA)with h2|h2
    ·exact h2.symm
    ·have:=ha.1 y h2;have:=hb.1 x h1;omega
  subst e
  congr 1
  refine WlQ ha.2 hb.2 λz=>?_;have d:=h z;simp only[zQ]at d;constructor
  ·intro hza;have:=ha.1 z hza;rcases d.1 (.inr hza)with h1|h1
   ·omega
   ·exact h1
  ·intro hzb;have:=hb.1 z hzb;rcases d.2 (.inr hzb)with h1|h1
   ·omega
   ·exact h1
theorem Hi {f:Cls->Li->List Int×Li}{x:Bt}:x∈Kb f tb ls↔∃c l,tb[x.1]?=some c/\ls[x.1]?=some l/\x.2=(f c l).1/\x.2≠[]:=by
 unfold Kb;rw[zEO];constructor
 ·rintro⟨k,hk,h⟩;split at h
  ·rename_i c l hc hl;split at h
   ·cases h
   ·rename_i hne;cases h;exact⟨c,l,hc,hl,rfl,hne⟩
  ·cases h
 ·rintro⟨c,l,hc,hl,e,hne⟩;refine⟨x.1,zU.2 (gSi.1 hc).1,?_⟩;rw[hc,hl];simp only;rw[zA (by rw[←e];exact hne),←e]
theorem Wiw {f:Cls->Li->List Int×Li}:((Kb f tb ls).map (·.1)).Pairwise (· < ·):=by
 unfold Kb;have key:∀(n:Nat),(((List.range n).filterMap λk=>match tb[k]?,ls[k]? with
  | some c,some l=>if(f c l).1=[]then none else some ((k,(f c l).1):Bt)
  | _,_=>none).map (·.1)).Pairwise (· < ·)/\∀x∈((List.range n).filterMap λk=>match tb[k]?,ls[k]? with
  | some c,some l=>if(f c l).1=[]then none else some ((k,(f c l).1):Bt)
  | _,_=>none),x.1<n:=by
  intro n
  induction n with
  | zero=>simp
  | succ n ih=>
   rw[zAB,zDZ,zAD];refine⟨zBT.2 ⟨ih.1,?_,?_⟩,?_⟩
   ·simp only[zGF,List.filterMap_nil];split<;>simp
   ·intro a ha b hb;obtain⟨x,g,rfl⟩:=zC.1 ha;obtain⟨y,e,rfl⟩:=zC.1 hb;have j:=ih.2 x g;obtain⟨m,i,d⟩:=zEO.1 e;clear e hb ha;simp only[zV]at i;subst i;split at d
    ·split at d
     ·cases d
     ·cases d;exact j
    ·cases d
   ·intro x g;rcases zR.1 g with g|g
    ·have:=ih.2 x g;omega
    ·obtain⟨m,i,e⟩:=zEO.1 g;simp only[zV]at i;subst i;split at e
     ·split at e
      ·cases e
      ·cases e;omega
     ·cases e
 exact(key tb.length).1
def inT (todo:List (Int×Option Addr))(k:Nat):Prop:=((k:Nat):Int)∈todo.map (·.1)
instance (todo:List (Int×Option Addr)) (k:Nat):Decidable (inT todo k):=by unfold inT;infer_instance
theorem H7 {todo:List (Int×Option Addr)}{m k:Nat}:inT (todo.filter λy=>!(y.1==(m:Int))) k↔inT todo k/\k≠m:=by
 unfold inT;simp only[zC,zH,zAW,zBC];constructor
 ·rintro⟨y,⟨h1,h2⟩,h3⟩;exact⟨⟨y,h1,h3⟩,λe=>h2 O⟩
 ·rintro⟨⟨y,h1,h3⟩,h2⟩;exact⟨y,⟨h1,λe=>h2 O⟩,h3⟩
structure BtI (f:Cls->Li->List Int×Li) (tb:List Cls) (ls:List Li) (todo:List (Int×Option Addr)) (ls':List Li) (outs:List Bt):Prop where
 l:∀k c l,tb[k]?=some c->ls[k]?=some l->ls'[k]?=some (if inT todo k then l else(f c l).2)
 n:(outs.map (·.1)).Nodup
 o:∀x:Bt,x∈outs↔∃c l,tb[x.1]?=some c/\ls[x.1]?=some l/\¬inT todo x.1/\x.2=(f c l).1/\x.2≠[]
theorem BtI.step {f:Cls->Li->List Int×Li}{todo:List (Int×Option Addr)}{ls':List Li}{outs:List Bt}(h:BtI f tb ls todo ls' outs)(hc:tb[k]?=some c)(hl:ls[k]?=some l)(hk:inT todo k) :
 BtI f tb ls (todo.filter λy=>!(y.1==(k:Int))) (ls'.set k (f c l).2) (if(f c l).1=[]then outs else outs++[(k,(f c l).1)]):=by
 have w:=h.l k c l hc hl;have z:=(gSi.1 w).1;have A:∀x∈outs,x.1≠k:=λx g e=>by
  obtain⟨_,_,_,_,B,_⟩:=(h.o x).1 g;rw[e]at B;exact B hk
 refine⟨λj d m hd p=>?_,?_,λx=>?_⟩
 ·by_cases hj:j=k
  ·subst hj;rw[hc]at hd;cases hd;rw[hl]at p;cases p;rw[zL z,zA (by rw[H7];exact λg=>g.2 rfl)]
  ·rw[zi (Ne.symm hj),h.l j d m hd p]
   congr 1
   by_cases r:inT todo j
   ·rw[zB r,zB (H7.2 ⟨r,hj⟩)]
   ·rw[zA r,zA λg=>r (H7.1 g).1]
 ·split
  ·exact h.n
  ·rw[zAD,zBJ];refine⟨h.n,by simp,λa E b C e=>?_⟩;simp only[zJ,zCC,zV]at C;subst C;obtain⟨x,g,D⟩:=zC.1 E;exact A x g (D.trans e)
 ·have u:(∃d m,tb[x.1]?=some d/\ls[x.1]?=some m/\¬inT (todo.filter λy=>!(y.1==(k:Int))) x.1/\x.2=(f d m).1/\x.2≠[])↔x∈outs\/(x=(k,(f c l).1)/\(f c l).1≠[]):=by
   constructor
   ·rintro⟨d,m,hd,p,r,e,i⟩;by_cases hj:x.1=k
    ·right;rw[hj]at hd p;rw[hc]at hd;cases hd;rw[hl]at p;cases p;exact⟨Prod.ext hj e,by rw[←e];exact i⟩
    ·left;exact(h.o x).2 ⟨d,m,hd,p,λg=>r (H7.2 ⟨g,hj⟩),e,i⟩
   ·rintro(g|⟨rfl,i⟩)
    ·obtain⟨d,m,hd,p,r,e,i⟩:=(h.o x).1 g;exact⟨d,m,hd,p,λs=>r (H7.1 s).1,e,i⟩
    ·exact⟨c,l,hc,hl,λs=>(H7.1 s).2 rfl,rfl,i⟩
  rw[u];split
  ·rename_i he;constructor
   ·exact .inl
   ·rintro(g|⟨_,i⟩)
    ·exact g
    ·exact absurd he i
  ·rename_i he;rw[zR,zV];constructor
   ·rintro(g|g)
    ·exact .inl g
    ·exact .inr ⟨g,he⟩
   ·rintro(g|g)
    ·exact .inl g
    ·exact .inr g.1
set_option maxRecDepth 4000 in
theorem Wbx (hso:HY){f:Cls->Li->List Int×Li}{fn:Nat}(hf:WnG f fn)(hnil:∀c,c.ok->f c liN=([],liN))(h:CaY σ F Y tb bud ls){R:Sl->Hp->Prop}
 (hR:∀σ' s (Q:Rg),Ext F σ σ'->(∀q,Q q->σ.size<=q)->CaY σ' (λq=>Grow F σ q/\¬Q q) Y tb bud (Q8 f tb ls)->BtR s (Kb f tb ls) σ' Q->R s σ') :
 Xn.c (aW Y.p) ⟨fn,#[],#[]⟩ σ R:=by
 refine Xn.o ?_;unfold Xn.v;refine HD h (ifF rfl (nilP (h.hd.rM rfl ?_)));have htb:=h.tb1;refine rng1 (a:=.s) h.map (λC (out:Sl) v=>∃(ls':List Li) (w:List Bt) (Q D:Rg) (ps:List (Nat×Sl)),Ext F σ v/\(∀q,Q q->σ.size<q)/\CaY v (λq=>(Cut F σ q\/σ.size<q)/\¬Q q) Y tb bud ls' ∧
  RowR out 2 (btsV ps) v (λq=>Q q/\¬D q)/\BtO ps w v D/\(∀q,D q->Q q)/\BtI f tb ls C ls' w/\(∀e∈C,e∈ptI Y.ps)/\(C.map (·.1)).Nodup/\Djp ps) ?_ ?_ ?_
 ·intro v hz e;refine⟨ls,[],λ_=>False,λ_=>False,[],Ext0.to e,λq g=>g.elim,((CaY.loc.keep0 h.cut e).mono λq _ g=>⟨.inl g,id⟩),RowR.nil _ _ _ _,⟨rfl,λi p x K=>by simp at K⟩,λq g=>g.elim,⟨λk c l E N=>?_,by simp,λx=>?_⟩,λe P=>P,h.map.nodup,List.Pairwise.nil⟩
  ·by_cases hi:inT (ptI Y.ps) k
   ·rw[zB hi,N]
   ·rw[zA hi];have hf0:lkp Y.ps k=none:=by
     unfold lkp;simp only[zCO,zBM,zZ];exact λx r e=>hi (zC.2 ⟨((x.1:Int),some ⟨x.2,0,none⟩),zC.2 ⟨x,r,rfl⟩,by rw[e]⟩)
    have:=h.nil hf0 N;rw[N,this,hnil c (h.ok c (zE E))]
  ·simp only[List.not_mem_nil,false_iff];rintro⟨c,l,E,N,hi,e,hne⟩;have hf0:lkp Y.ps x.1=none:=by
    unfold lkp;simp only[zCO,zBM,zZ];exact λy W e=>hi (zC.2 ⟨((y.1:Int),some ⟨y.2,0,none⟩),zC.2 ⟨y,W,rfl⟩,by rw[e]⟩)
   have:=h.nil hf0 N;rw[this,hnil c (h.ok c (zE E))]at e;exact hne e
 ·rintro out v ⟨ls',w,Q,D,ps,e,hQ,hC,V,hB,hD,Z,_,_,S⟩;have hno:∀k,¬inT [] k:=λk hk=>by simp[inT]at hk
  have hls:ls'=Q8 f tb ls:=by
   apply zu;intro k;by_cases hk:k<tb.length
   ·have E:tb[k]?=some tb[k]:=gGe hk;have N:ls[k]?=some (ls[k]'(by rw[h.len];exact hk)):=gGe _;rw[Z.l k _ _ E N,zA (hno k)];simp[Q8,zGW,E,N]
   ·rw[zY (by rw[hC.len];omega),zY (by simp[Q8,h.len];omega)]
  subst hls;have hk1:∀(i:Nat) p,ps[i]?=some p->∃x,w[i]?=some x/\p.1=x.1/\SlR p.2 1 (Wv x.2) v D/\p.2.len<=p.2.cap:=λi p K=>by
   have hi:=(gSi.1 K).1;have r:w[i]?=some (w[i]'(by rw[←hB.1];exact hi)):=gGe _;exact⟨_,r,hB.2 i p _ K r⟩
  have B:ps.map (·.1)=w.map (·.1):=by
   apply zu;intro i;simp only[zf];cases K:ps[i]? with
   | none=>
    have:w[i]?=none:=by
     rw[List.getElem?_eq_none_iff]at K ⊢;rw[←hB.1];exact K
    rw[this];rfl
   | some p=>
    obtain⟨x,r,e1,_⟩:=hk1 i p K;rw[r];simp[e1]
  have X:∀x∈w,x.1<40:=λx r=>by
   obtain⟨c,l,E,_⟩:=(Z.o x).1 r;have:=(gSi.1 E).1;omega
  have hlen:ps.length<=40:=by
   have hn:=Z.n;rw[←B]at hn;have:=hn.length_le_of_subset (l₂:=List.range 40) λj S=>by
    rw[B]at S;obtain⟨x,r,rfl⟩:=zC.1 S;exact zU.2 (X x r)
   simpa using this
  refine hso V (λp K=>?_) O λps' v' M hsort e' hrow'=>?_
  ·have:p.1∈w.map (·.1):=by rw[←B];exact zC.2 ⟨p,K,rfl⟩
   obtain⟨x,r,e1⟩:=zC.1 this;have:=X x r;omega
  ·have hnd:(ps'.map (·.1)).Nodup:=(M.map _).nodup_iff.2 (by rw[B];exact Z.n);have hinc:(ps'.map (·.1)).Pairwise (· < ·):=by
    refine List.Pairwise.map (R:=λa b:Nat×Sl=>a.1<b.1) _ (λa b hab=>hab) ?_;have A:ps'.Pairwise λa b=>a.1≠b.1:=zCN.1 hnd;exact(hsort.and A).imp λ{a b} hab=>by have:=hab.1;have:=hab.2;omega
   have hkk:ps'.map (·.1)=(Kb f tb ls).map (·.1):=by
    refine WlQ hinc Wiw λj=>?_;rw[(M.map _).mem_iff,B];constructor
    ·intro S;obtain⟨x,r,rfl⟩:=zC.1 S;obtain⟨c,l,E,N,_,e1,e2⟩:=(Z.o x).1 r;exact zC.2 ⟨x,Hi.2 ⟨c,l,E,N,e1,e2⟩,rfl⟩
    ·intro S;obtain⟨x,r,rfl⟩:=zC.1 S;obtain⟨c,l,E,N,e1,e2⟩:=Hi.1 r;exact zC.2 ⟨x,(Z.o x).2 ⟨c,l,E,N,hno _,e1,e2⟩,rfl⟩
   have eQ:Ext F σ v':=e.newT e' λq g=>.inr (zCS (hQ q g.1));refine hR v' out Q eQ (λq g=>zCS (hQ q g)) ?_ ⟨ps',D,hrow'.o,⟨?_,λi p x K r=>?_⟩,hD,(M.pairwise_iff λ{a b} hab x y A h2 e=>hab y x h2 A e.symm).2 S,λx r=>by
    obtain⟨_,_,_,_,_,h2⟩:=Hi.1 r;exact h2⟩
   ·refine(CaY.loc.keep hC e' λq _ g hq2=>g.2 hq2.1).mono λq _ g=>⟨?_,g.2⟩;rcases g.1 with r|r
    ·exact .inl r.1
    ·exact .inr (zCS r)
   ·have:=congrArg List.length hkk;simpa using this
   ·have e1:p.1=x.1:=by
     have:=congrArg (λl=>l[i]?) hkk;simp only[zf,K,r,zg,Option.some.injEq]at this;exact this
    obtain⟨j,S⟩:=zN (M.mem_iff.1 (zE K));obtain⟨y,W,e2,hs,hcap⟩:=hk1 j p S;have e3:x.2=y.2:=by
     obtain⟨c,l,E,N,_,A,_⟩:=(Z.o y).1 (zE W);obtain⟨c',l',hc',hl',h2,_⟩:=Hi.1 (zE r);rw[←e1,e2,E]at hc';cases hc';rw[←e1,e2,N]at hl';cases hl';rw[A,h2]
    rw[e3];exact⟨e1,aH.keep hs e' λq _ g hq2=>hq2.2 g,hcap⟩
 ·rintro C n x out v v' J ⟨ls',w,Q,D,ps,e,hQ,hC,V,hB,hD,Z,hsub,hnd,S⟩ r ho hlt hJ;have e1:Ext F σ v':=e.only ho (.inr (zD _));have U:CaY v' (λq=>(Cut F σ q\/σ.size<q)/\¬Q q) Y tb bud ls':=CaY.loc.keep hC ho.ext λq _ g P=>by
   rcases g.1 with A|A
   ·have:=A.2;omega
   ·omega
  have hrow1:RowR out 2 (btsV ps) v' (λq=>(Q q/\¬D q)/\q<v'.size):=aI.cut (aI.keep V ho.ext λq _ g P=>by have:=hQ q g.1;omega);have hB1:BtO ps w v' (λq=>D q/\q<v'.size):=(BtO.loc _ _).cut ((BtO.loc _ _).keep hB ho.ext λq _ g P=>by have:=hQ q (hD q g);omega);have hmem:=hsub _ r;simp only[ptI,zC,Prod.mk.injEq]at hmem;obtain⟨⟨k,b⟩,hkb,hk1,hx1⟩:=hmem;simp only at hk1 hx1;subst hk1;subst hx1;have hk:=h.keys _ hkb;simp only at hk;have E:tb[k]?=some tb[k]:=gGe hk;have N:ls[k]?=some (ls[k]'(by rw[h.len];exact hk)):=gGe _;generalize tb[k]=c at E;generalize (ls[k]'(by rw[h.len];exact hk))=l at N;have hcok:=h.ok c (zE E);have hlk:lkp Y.ps k=some b:=WlP h.map.nodup hkb;have hin:inT C k:=zC.2 ⟨_,r,rfl⟩;have hl':ls'[k]?=some l:=by rw[Z.l k c l E N,zB hin]
  have L:=Z.step E N hin;have hmF:(λq=>(Cut F σ q\/σ.size<q)/\¬Q q) Y.m:=by
   obtain⟨H,hH,hm⟩:=U.sep.get .mp;exact hH _ hm.1
  obtain⟨G,hG,hL,hGm,hput⟩:=U.liS hlk hl';have aa:=hG b hL.1;have hbm:b≠Y.m:=λe=>hGm (e▸hL.1);have hbs:b≠σ.size:=λe=>by
   subst e;rcases aa.1 with A|A
   ·have:=A.2;omega
   ·omega
  have hblt:b<v'.size:=by obtain⟨_,_,s,hbk,_⟩:=hL;exact hbk.lt
  have hsz1:=ho.1;refine nilP (U.hd.rS rfl (WaK U.tabS E (d:=2) O ?_));simp only[zA (show ¬(2=0) by omega),zA (show ¬(2=1) by omega)];refine hf hL hcok λs z v5 e5 hz hr hL5=>?_;have hs5:=e5.1;obtain⟨eF,h5⟩:=hput v5 _ (λq=>q=b\/z<=q) (e5.sub λq g=>by rw[g];exact hL.1) (λq g=>g.imp (λ(r:q=b)=>by rw[r];exact hL.1) λ(r:z<=q)=>O) hL5;have h5:=h5.cut;have eF5:Ext F σ v5:=e1.newT eF λq g=>by
   rcases g.1 with A|A
   ·exact .inl A.1
   ·exact .inr (zCS A)
  have hnb:∀q,Q q->q≠b:=λq g hqb=>aa.2 (hqb▸g);have hrow5:=aI.keep hrow1 e5 λq _ g P=>hnb q g.1.1 P;have hB5:=(BtO.loc _ _).keep hB1 e5 λq _ g P=>hnb q (hD q g.1) P;have hsl:s.len=(f c l).1.length:=by have:=hr.1;simp[Wv]at this;omega
  have hsub':∀y∈C.filter (λy=>!(y.1==(k:Int))),y∈ptI Y.ps:=λy W=>hsub y (zH.1 W).1;have hnd':((C.filter λy=>!(y.1==(k:Int))).map (·.1)).Nodup:=hnd.sublist (List.filter_sublist.map _);by_cases hemp:(f c l).1=[]
  ·rw[zB hemp]at L;refine ifDF (by rw[hsl,hemp];simp) (hJ out v5 (e5.2 _ O λP=>hbs P.symm) (e5.2 _ U.map.lt λP=>hbm P.symm) ?_);refine⟨_,w,λq=>Q q/\q<v'.size,λq=>D q/\q<v'.size,ps,eF5,λq g=>hQ q g.1,h5.mono λq _ g=>?_,aI.mono hrow5 λq _ g=>⟨⟨g.1.1,g.2⟩,λhd=>g.1.2 hd.1⟩,hB5,λq g=>⟨hD q g.1,g.2⟩,L,hsub',hnd',S⟩;rcases g.1 with A|A|A
   ·exact⟨A.1.1,λr=>A.1.2 r.1⟩
   ·subst A;exact⟨aa.1,λr=>aa.2 r.1⟩
   ·exact⟨.inr O,λr=>O⟩
  ·rw[zA hemp]at L;have hpos:=zCG.2 hemp;refine ifDT (by rw[hsl];omega) (nw (cs:=btV (k,s)) λv6 hz6 e6 hb6=>?_);have hrow6:=aI.keep0 hrow5 e6;have hB6:=(BtO.loc _ _).keep0 hB5 e6;have hr6:=aI.keep0 (aI.cut hr) e6;have hpl:out.len=ps.length:=by have:=V.1;rw[KC]at this;omega
   have hol:ps.length<=40:=by
    have B:w.map (·.1)⊆List.range 40:=λj S=>by
     obtain⟨x,r,rfl⟩:=zC.1 S;obtain⟨c,l,E,_⟩:=(Z.o x).1 r;have:=(gSi.1 E).1;exact zU.2 O
    have:=Z.n.length_le_of_subset B;rw[hB.1];simpa using this
   refine hrow6.app (ys:=btV (k,s)) rfl rfl ?_ (λv hv=>Hm (l:=[(k,s)]) v (by simpa[btsV]using hv)) ?_ ?_ zBG λs' v7 hl7 e7 hr7=>?_
   ·intro j u hu;rw[add_lit,zG,hb6.cell];exact hu
   ·simp only;have:(out.len+1)*32<=41*32:=zAF O O;omega
   ·simp only;omega
   have hs7:=e7.1;have e57:Ext (λq=>(Q q/\¬D q)/\q<v'.size) v5 v7:=(Ext0.to e6).trans e7;refine hJ s' v7 ?_ ?_ ?_
   ·rw[e57.2 _ O λr=>by have:=hQ _ r.1.1;omega];exact e5.2 _ O λP=>hbs P.symm
   ·rw[e57.2 _ (by have:=U.map.lt;omega) λr=>hmF.2 r.1.1];exact e5.2 _ U.map.lt λP=>hbm P.symm
   refine⟨_,_,λq=>Q q/\q<v'.size\/(v'.size<=q/\q<z)\/v5.size<=q,λq=>D q/\q<v'.size\/(v'.size<=q/\q<z)/\q<v5.size,ps++[(k,s)],eF5.newT e57 λq g=>.inr (zCS (hQ q g.1.1)),λq g=>?_,(CaY.loc.keep h5 e57 λq hq5 g r=>?_).mono λq _ g=>?_,?_,⟨?_,λi p y K W=>?_⟩,λq g=>?_,L,hsub',hnd',S.snoc hB1 (λx r=>by
    obtain⟨_,_,_,_,_,_,h2⟩:=(Z.o x).1 r;exact h2) hr.slR hemp (λb hb r W=>by have:=r.2;have:=W.1;omega) k⟩
   ·rcases g with g|g|g
    ·exact hQ q g.1
    ·omega
    ·omega
   ·rcases g.1 with A|A|A
    ·exact A.1.2 r.1.1
    ·exact hnb q r.1.1 A
    ·have:=r.2;omega
   ·have hq5:=g.2;rcases g.1 with A|A|A
    ·exact⟨A.1.1,λr=>by
      rcases r with r|r|r
      ·exact A.1.2 r.1
      ·have:=A.2.1;omega
      ·omega⟩
    ·subst A;exact⟨aa.1,λr=>by
      rcases r with r|r|r
      ·exact aa.2 r.1
      ·omega
      ·omega⟩
    ·exact⟨.inr O,λr=>by
      rcases r with r|r|r<;>omega⟩
   ·rw[UX];have:btsV [(k,s)]=btV (k,s):=by simp[btsV]
    rw[this];refine aI.mono hr7 λq _ g=>?_;rcases g with g|g
    ·exact⟨.inl ⟨g.1.1,g.2⟩,λhd=>by
      rcases hd with hd|hd
      ·exact g.1.2 hd.1
      ·omega⟩
    ·exact⟨.inr (.inr O),λhd=>by
      rcases hd with hd|hd<;>omega⟩
   ·rw[zK,zK,hB.1];rfl
   ·rcases zAN i ps.length with hi|hi
    ·rw[ze hi]at K;rw[ze (by rw[←hB.1];exact hi)]at W;obtain⟨a1,a2,a3⟩:=hB6.2 i p y K W;exact⟨a1,aH.mono (aH.keep a2 e7 λq _ g r=>r.1.2 g.1) λq _ g=>.inl g,a3⟩
    ·rw[zm hi]at K;rw[zm (by rw[←hB.1];exact hi)]at W;have hi0:i-ps.length=0:=by
      have:=(gSi.1 K).1;simp at this;omega
     rw[hi0]at K;rw[show i-w.length=0 by rw[←hB.1];exact hi0]at W;simp at K W;subst K;subst W;exact⟨rfl,aH.mono (aH.keep hr6.slR e7 λq _ g r=>by have:=r.2;have:=g.1;omega) λq _ g=>.inr g,RowR.capO hr⟩
   ·rcases g with g|g
    ·exact .inl ⟨hD q g.1,g.2⟩
    ·exact .inr (.inl g.1)
theorem Wku (hso:HY)(h:CaY σ F Y tb bud ls){R:Sl->Hp->Prop}
 (hR:∀σ' s (Q:Rg),Ext F σ σ'->(∀q,Q q->σ.size<=q)->CaY σ' (λq=>Grow F σ q/\¬Q q) Y tb bud (Q8 ZX tb ls)->BtR s (Kb ZX tb ls) σ' Q->R s σ'):XR.c (aW Y.p) σ R:=by
 refine XR.o ?_;unfold XR.v;exact Wbx hso WiC (λc _=>Wg2 c) h hR
theorem Wen (hso:HY)(h:CaY σ F Y tb bud ls){R:Sl->Hp->Prop}
 (hR:∀σ' s (Q:Rg),Ext F σ σ'->(∀q,Q q->σ.size<=q)->CaY σ' (λq=>Grow F σ q/\¬Q q) Y tb bud (Q8 KJ tb ls)->BtR s (Kb KJ tb ls) σ' Q->R s σ'):Xc.c (aW Y.p) σ R:=by
 refine Xc.o ?_;unfold Xc.v;exact Wbx hso WkJ Who h hR
end Go.Ar
namespace Go.Proofs
open Go.Vc
set_option maxRecDepth 100000
def Zp.h:Hn:=.q .o1 (.q (.q .o3 .aK) (.q .o1 (.q (.q .o8 (.k (.loop [(3,.one .s),(16,.I)] (.q .o1 (.q (.c .l .l) (.q (.k (.q .o3 .o10)) .o2)))))) .aL)))
def Zp.v (a:R2)(b:Hp)(c:Sl->Hp->Prop):Prop:=WP.c a b λd e=>If (!d) (c ⟨none,0,0⟩ e) (bI a 9 e λg=>ZO.c g e λh i=>VJ.c h i λj k=>W8 [.s,bN] (λl=>l ⟨none,0,0⟩ 0 k) λm (n:Sl) (o:Int) p=>If (o<((j.len:Nat):Int)) (Ix j.a j.len o 1 λq=>bM q p λr=>NilP a λs=>bB s 9 p λt=>Lk .i64 (.ag 4) t r p λu=>aV #[.I ((u.getD (0,0,0,0)).1),.I ((u.getD (0,0,0,0)).2.1),.I ((u.getD (0,0,0,0)).2.2.1),.I ((u.getD (0,0,0,0)).2.2.2)] 76 p λv w=>App n 4 32 76 [.I 0,.I 0,.I 0,.I 0] ⟨some v,1,1⟩ w λx y=>bL (o+1) λz=>m x z y) (c n p))
theorem Zp.o {a b c}(d:Zp.v a b c):Zp.c a b c:=Wa Tryz.func31 (x:=Zp.h) (R0 d)
def YT.h:Hn:=.q .o1 (.q (.q .o3 .aK) (.q .o6 .l))
def YT.v (a:R2)(b:Hp)(c:Sl->Hp->Prop):Prop:=WP.c a b λd e=>If (!d) (c ⟨none,0,0⟩ e) (bE a 0 e λg=>Wc.c g e λh i=>c h i)
theorem YT.o {a b c}(d:YT.v a b c):YT.c a b c:=Wa Tryz.func33 (x:=YT.h) (R0 d)
def XB.h:Hn:=.q .o1 (.q (.q .o3 .aJ) (.q (.reg (.heldJ true [12] [(3,.one .ad)] (.tk [0,1,2,3,5,6,7,8] (.all [(4,.all [(9,.take 10 (.all [(11,.all [(12,.done)])])),(11,.all [(9,.take 10 (.all [(12,.done)]))])]),(11,.all [(4,.all [(9,.take 10 (.all [(12,.done)]))])])])))) (.q (.q .o5 (.k (.loop [] (.q (.reg (.seq [.it .i64 (.ag 4),.op])) (.q (.c .l .l) (.k (.q (.reg (.seq [.it .i64 (.ag 4),.op,.op,.op])) (.q .o3 (.c .o7 .l))))))))) (.q (.q .o6 (.k (.loop [(56,.I)] (.q .o1 (.q (.c .l .l) (.q (.k (.q .o4 (.q (.reg (.held true [7] (.tk [0,1,2,3] (.all [(4,.take 5 (.take 6 (.all [(7,.done)])))])))) (.q .o4 (.k (.loop [(70,.I)] (.q .o1 (.q (.c .l .l) (.q (.k (.q .o4 (.reg (.tail 17 (RI.ops 17) [.op])))) .o2))))))))) .o2)))))) (.q (.q .o6 (.k (.loop [(98,.I)] (.q .o1 (.q (.c .l .l) (.q (.k (.q .o3 (.q (.o 15) (.q (.o 18) (.o 19))))) .o2)))))) .aL)))))
def XB.v (a:R2)(b:Hp)(c:Int->Int->Int->Int->Int->Int->Int->Int->Int->Int->Int->Hp->Prop):Prop:=aV #[.I 0,.I 0,.I 0,.I 0,.I 0,.I 0,.I 0,.I 0,.I 0,.I 0,.I 0] 89 b λd e=>WP.c a e λf g=>If (!f) (aR d 0 (.I 0) g λh=>aR d 1 (.I 0) h λi=>aR d 2 (.I 0) i λj=>aR d 3 (.I 0) j λk=>aR d 4 (.I 0) k λl=>aR d 5 (.I 0) l λm=>aR d 6 (.I 0) m λn=>aR d 7 (.I 0) n λo=>aR d 8 (.I 0) o λp=>aR d 9 (.I 0) p λq=>aR d 10 (.I 0) q λr=>aQ d 0 r λs=>aQ d 1 r λt=>aQ d 2 r λu=>aQ d 3 r λv=>aQ d 4 r λw=>aQ d 5 r λx=>aQ d 6 r λy=>aQ d 7 r λz=>aQ d 8 r λaa=>aQ d 9 r λab=>aQ d 10 r λac=>c s t u v w x y z aa ab ac r) (Jn [.ad] (λ(ad:Addr) ae=>bI a 9 ae λag=>Rng .i64 (.ag 4) ag ae λah ai=>W8 [] (λaj=>aj ai) λak al=>Nxt .i64 (.ag 4) ah al (bE a 8 al λan=>W8 [bN] (λao=>ao 0 al) λap (aq:Int) ar=>If (aq<((an.len:Nat):Int)) (Ix an.a an.len aq 3 λau=>aY au 0 ar λav=>aX au 1 ar λaw=>bA au 2 ar λax=>aV #[.pointer none,.slice none 0 0,.nilIface] 128 ar λay az=>O1 ax <| aR ay 0 (.pointer av) az λa0=>aR ay 1 (.slice aw.a aw.len aw.cap) a0 λa1=>aR ay 2 (ax) a1 λa2=>Held a2 λa3=>aS a3 ad 1 λa4=>aU a3 ay 0 λa5=>Xv.c a5 a2 λa6 a7=>
 And (a3 a7) <| bL (a4+a6) λa8=>aR ad 1 (.I a8) a7 λa9=>aX ay 1 a9 λba=>W8 [bN] (λbb=>bb 0 a9) λbc (bd:Int) be=>If (bd<((ba.len:Nat):Int)) (Ix ba.a ba.len bd 2 λbf=>aQ bf 0 be λbg=>aX bf 1 be λbh=>aV #[.I 0,.slice none 0 0] 130 be λbi bj=>aR bi 0 (.I bg) bj λbk=>aR bi 1 (.slice bh.a bh.len bh.cap) bk λbl=>aQ ad 2 bl λbm=>aX bi 1 bl λbn=>bE a 0 bl λbp=>aQ bi 0 bl λbq=>Ix bp.a bp.len bq 3 λbr=>aQ br 0 bl λbs=>bL (((bn.len:Nat):Int)*bs) λbt=>bL (bm+bt) λbu=>aR ad 2 (.I bu) bl λbv=>bL (bd+1) λbw=>bc bw bv) (bL (aq+1) λbx=>ap bx be)) (bE a 7 ar λb0=>W8 [bN] (λb1=>b1 0 ar) λb2 (b3:Int) b4=>If (b3<((b0.len:Nat):Int)) (Ix b0.a b0.len b3 1 λb5=>LdP b5 b4 λb6=>X6.c b6 b4 λb7 b8 b9 ca cb cc cd=>aQ ad 3 cd λce=>bL (ce+b7) λcf=>aQ ad 4 cd λcg=>bL (cg+b8) λch=>aQ ad 5 cd λci=>bL (ci+b9) λcj=>aR ad 3 (.I cf) cd λck=>aR ad 4 (.I ch) ck λcl=>aR ad 5 (.I cj) cl λcm=>aQ ad 7 cm λcn=>bL (cn+ca) λco=>aQ ad 6 cm λcp=>bL (cb*256) λcq=>bL (cp+cq) λcr=>aQ ad 8 cm λcs=>bL (cs+cc) λct=>aR ad 7 (.I co) cm λcu=>aR ad 6 (.I cr) cu λcv=>aR ad 8 (.I ct) cv λcw=>bL (b3+1) λcx=>b2 cx cw) (aQ ad 0 b4 λcy=>aQ ad 1 b4 λcz=>
 aQ ad 2 b4 λc0=>aQ ad 3 b4 λc1=>aQ ad 4 b4 λc2=>aQ ad 5 b4 λc3=>aQ ad 6 b4 λc4=>aQ ad 7 b4 λc5=>aQ ad 8 b4 λc6=>aQ ad 9 b4 λc7=>aQ ad 10 b4 λc8=>aR d 0 (.I cy) b4 λc9=>aR d 1 (.I cz) c9 λda=>aR d 2 (.I c0) da λdb=>aR d 3 (.I c1) db λdc=>aR d 4 (.I c2) dc λdd=>aR d 5 (.I c3) dd λde=>aR d 6 (.I c4) de λdf=>aR d 7 (.I c5) df λdg=>aR d 8 (.I c6) dg λdh=>aR d 9 (.I c7) dh λdi=>aR d 10 (.I c8) di λdj=>aQ d 0 dj λdk=>aQ d 1 dj λdl=>aQ d 2 dj λdm=>aQ d 3 dj λdn=>aQ d 4 dj λdp=>aQ d 5 dj λdq=>aQ d 6 dj λdr=>aQ d 7 dj λds=>aQ d 8 dj λdt=>aQ d 9 dj λdu=>aQ d 10 dj λdv=>c dk dl dm dn dp dq dr ds dt du dv dj))) (λdw dx dy=>Ent .i64 (.ag 4) ah dy λdz d0=>aV #[.I 0,.I 0,.I 0,.I 0] 76 dy λd1 d2=>aR d1 0 (.I d0.1) d2 λd3=>aR d1 1 (.I d0.2.1) d3 λd4=>aR d1 2 (.I d0.2.2.1) d4 λd5=>aR d1 3 (.I d0.2.2.2) d5 λd6=>aQ d1 2 d6 λd7=>If (d7≥0) (aQ ad 0 d6 λd8=>aQ d1 1 d6 λd9=>bL (d8+d9) λea=>aR ad 0 (.I ea) d6 λeb=>ak eb) (ak d6))) λec=>Held g λed=>NilP a λee=>aU ed ee 6 λef=>NilP a λeg=>aU ed eg 6 λeh=>(XC.c ef g λei ej=>And (ed ej) <|
 (Xr.c eh ej λek el=>And (ed el) <| aV #[.I 0,.I 0,.I 0,.I 0,.I 0,.I 0,.I 0,.I 0,.I 0,.I 0,.I 0] 89 el λem en=>And (ed en) <| aR em 0 (.I 0) en λeo=>aR em 1 (.I 0) eo λep=>aR em 2 (.I 0) ep λeq=>aR em 3 (.I 0) eq λer=>aR em 4 (.I 0) er λes=>aR em 5 (.I 0) es λet=>aR em 6 (.I 0) et λeu=>aR em 7 (.I 0) eu λev=>aR em 8 (.I 0) ev λew=>aR em 9 (.I ei) ew λex=>aR em 10 (.I ek) ex λey=>ec em ey) ∧ (aV #[.I 0,.I 0,.I 0,.I 0,.I 0,.I 0,.I 0,.I 0,.I 0,.I 0,.I 0] 89 ej λez e0=>And (ed e0) <| Xr.c eh e0 λe1 e2=>And (ed e2) <| aR ez 0 (.I 0) e2 λe3=>aR ez 1 (.I 0) e3 λe4=>aR ez 2 (.I 0) e4 λe5=>aR ez 3 (.I 0) e5 λe6=>aR ez 4 (.I 0) e6 λe7=>aR ez 5 (.I 0) e7 λe8=>aR ez 6 (.I 0) e8 λe9=>aR ez 7 (.I 0) e9 λfa=>aR ez 8 (.I 0) fa λfb=>aR ez 9 (.I ei) fb λfc=>aR ez 10 (.I e1) fc λfd=>ec ez fd)) ∧ (aV #[.I 0,.I 0,.I 0,.I 0,.I 0,.I 0,.I 0,.I 0,.I 0,.I 0,.I 0] 89 g λfe ff=>And (ed ff) <| XC.c ef ff λfg fh=>And (ed fh) <| Xr.c eh fh λfi fj=>And (ed fj) <| aR fe 0 (.I 0) fj λfk=>aR fe 1 (.I 0) fk λfl=>aR fe 2 (.I 0) fl λfm=>aR fe 3 (.I 0) fm λfn=>aR fe 4 (.I 0) fn λfo=>aR fe 5 (.I 0) fo λfp=>aR fe 6 (.I 0) fp λfq=>aR fe 7 (.I 0) fq λfr=>aR fe 8 (.I 0) fr λfs=>aR fe 9 (.I fg) fs λft=>aR fe 10 (.I fi) ft λfu=>
 ec fe fu))
theorem XB.o {a b c}(d:XB.v a b c):XB.c a b c:=Wa Tryz.func36 (x:=XB.h) (R0 d)
def Yj.h:Hn:=.q .o2 (.q .o10 .l)
def Yj.v (a:R2)(b c d:Int)(e:Hp)(f:Int->Int->Hp->Prop):Prop:=XY.c a b 0 c d 0 e λg h i=>f g h i
theorem Yj.o {a b c d e f}(g:Yj.v a b c d e f):Yj.c a b c d e f:=Wa Tryz.func52 (x:=Yj.h) (R0 g)
def Y5.h:Hn:=.q .o1 (.q (.q .o3 .aJ) (.q .o5 .l))
def Y5.v (a:R2)(b:Hp)(c:Int->Int->Int->Int->Int->Hp->Prop):Prop:=aV #[.I 0,.I 0,.I 0,.I 0,.I 0] 40 b λd e=>WP.c a e λf g=>If (!f) (aR d 0 (.I 0) g λh=>aR d 1 (.I 0) h λi=>aR d 2 (.I 0) i λj=>aR d 3 (.I 0) j λk=>aR d 4 (.I 0) k λl=>aQ d 0 l λm=>aQ d 1 l λn=>aQ d 2 l λo=>aQ d 3 l λp=>aQ d 4 l λq=>c m n o p q l) (NilP a λr=>bM ((r.add 1).add 0) g λs=>bM ((r.add 1).add 1) g λt=>bM ((r.add 1).add 2) g λu=>bM ((r.add 1).add 3) g λv=>bM ((r.add 1).add 4) g λw=>aR d 0 (.I s) g λx=>aR d 1 (.I t) x λy=>aR d 2 (.I u) y λz=>aR d 3 (.I v) z λaa=>aR d 4 (.I w) aa λab=>aQ d 0 ab λac=>aQ d 1 ab λad=>aQ d 2 ab λae=>aQ d 3 ab λaf=>aQ d 4 ab λag=>c ac ad ae af ag ab)
theorem Y5.o {a b c}(d:Y5.v a b c):Y5.c a b c:=Wa Tryz.func55 (x:=Y5.h) (R0 d)
def Zq.h:Hn:=.q .o1 (.q .o10 .aL)
def Zq.v (a:R2)(b c:Int)(d:Hp)(e:aN):Prop:=XY.c a b 1 0 0 c d λf g h=>e g h
theorem Zq.o {a b c d e}(f:Zq.v a b c d e):Zq.c a b c d e:=Wa Tryz.func58 (x:=Zq.h) (R0 f)
def WP.h:Hn:=.q .o1 (.q (.reg (.seq [.op,.op,.op,.grd true 6 (RI.ops 6),.op])) .l)
def WP.v (a:R2)(b:Hp)(c:aO):Prop:=JnB (λd e=>c d e) λf=>If (!a.isNone) (bE a 8 b λh=>f (decide (((h.len:Nat):Int)>0)) b) (f false b)
theorem WP.o {a b c}(d:WP.v a b c):WP.c a b c:=Wa Tryz.func65 (x:=WP.h) (R0 d)
def Yd.h:Hn:=.q .o2 (.q (.q .o2 .aK) (.q .o7 .l))
def Yd.v (a:R2)(b:Int)(c:Hp)(d:aN):Prop:=aV #[.I b] 3 c λe f=>bM e f λg=>If (g<0) (d (-1) f) (bE a 7 f λi=>Wk.c i ⟨112,#[],#[.pointer (some e)]⟩ f λj k=>d j k)
theorem Yd.o {a b c d}(e:Yd.v a b c d):Yd.c a b c d:=Wa Tryz.func75 (x:=Yd.h) (R0 e)
def XY.h:Hn:=.q .o3 (.q (.q .o5 (.q .o2 (.c (.q .o3 .l) .l))) (.k (.loop [] (.k (.q (.o 11) (.q .o1 (.c (.q (.oq 6) .l) .l)))))))
def XY.v (a:R2)(b c d e f:Int)(g:Hp)(h:Int->Int->Hp->Prop):Prop:=aV #[.I c,.I d,.I e,.I f] 142 g λi j=>aQ i 0 j λk=>aQ i 1 j λl=>aQ i 2 j λm=>aQ i 3 j λn=>Yi.c a b k l m n j λo p=>If (o != 0) (h 0 o p) (W8 [] (λq=>q p) λr s=>Y9.c a b s λt u v w x=>aV #[.I 0,.I 0] 156 x λy z=>aR y 0 (.I u) z λaa=>aR y 1 (.I v) aa λab=>If t (aQ y 0 ab λac=>aQ y 1 ab λad=>h ac ad ab) (r ab))
theorem XY.o {a b c d e f g h}(i:XY.v a b c d e f g h):XY.c a b c d e f g h:=Wa Tryz.func83 (x:=XY.h) (R0 i)
def Zr.h:Hn:=.q .o1 (.q (.q .o3 .aK) (.q .o5 .l))
def Zr.v (a:R2)(b:Hp)(c:Option Addr->Hp->Prop):Prop:=WP.c a b λd e=>If (!d) (c none e) (bF a 6 e λg=>c g e)
theorem Zr.o {a b c}(d:Zr.v a b c):Zr.c a b c:=Wa Tryz.func84 (x:=Zr.h) (R0 d)
def Ku.h:Hn:=.q .o3 (.q (.k (.q .o4 (.c .aL (.q .o4 .aJ)))) (.q (.reg (.heldJ true [] [(6,.one .p)] (.take 0 (.take 2 (.all [(1,.all [(3,.take 4 (.all [(5,.take 6 (.done))]))]),(3,.all [(1,.take 4 (.all [(5,.take 6 (.done))]))])]))))) (.q .o10 (.q (.q .o3 (.k (.loop [(36,.I)] (.q .o1 (.q (.c .l .l) (.q (.k (.q (.reg (.held true [7] (.take 0 (.take 1 (.take 2 (.take 3 (.take 4 (.take 5 (.take 6 (.all [(7,.take 8 (.take 9 (.take 10 (.take 11 (.take 12 (.done))))))])))))))))) (.o 11))) .o2)))))) (.q (.q .o3 (.k (.loop [(62,.I)] (.q .o1 (.q (.c .l .l) (.q (.k (.q .o9 (.o 12))) .o2)))))) (.q .o3 .l))))))
def Ku.v (a:Sl)(b c d e f:Int)(g:Hp)(h:Option Addr->Int->Hp->Prop):Prop:=aV #[.I b,.I c,.I d,.I e,.I f] 40 g λi j=>ZG.c a j λk l=>If (!k) (h none 2 l) (aQ i 0 l λm=>aQ i 1 l λn=>aQ i 2 l λo=>aQ i 3 l λp=>aQ i 4 l λq=>QB.c m n o p q l λr s=>If (!r) (h none 1 s) (Jn [.p] (λ(t:R2) u=>aQ i 0 u λv=>Q2.c v u λw x y=>NilP t λz=>aR z 6 (.pointer w) y λaa=>aQ i 1 aa λab=>W8 [bN] (λac=>ac 0 aa) λad (ae:Int) af=>If (ae<ab) (Held af λag=>NilP t λah=>aU ag ah 6 λai=>aS ag i 4 λaj=>Q0.c a ai aj af λak al am=>bE t 7 am λao=>aV #[.pointer ak] 131 am λap aq=>App ao 1 8 131 [.pointer none] ⟨some ap,1,1⟩ aq λar au=>NilP t λav=>aR av 7 (.slice ar.a ar.len ar.cap) au λaw=>bL (ae+1) λax=>ad ax aw) (aQ i 2 af λay=>W8 [bN] (λaz=>az 0 af) λa0 (a1:Int) a2=>If (a1<ay) (aQ i 3 a2 λa3=>Q1.c a a3 a2 λa4 a5 a6=>bE t 8 a6 λa8=>aV #[.pointer a4,.slice none 0 0,.nilIface] 128 a6 λa9 ba=>App a8 3 48 128 [.pointer none,.slice none 0 0,.nilIface] ⟨some a9,1,1⟩ ba λbb bc=>NilP t λbd=>aR bd 8 (.slice bb.a bb.len bb.cap) bc λbe=>bL (a1+1) λbf=>a0 bf be) (h t 0 a2))) λbg=>Held s λbh=>aS bh i 0 λbi=>aS bh i 1 λbj=>
 aS bh i 2 λbk=>aS bh i 3 λbl=>aS bh i 4 λbm=>(Wc.c a s λbn bo=>And (bh bo) <| Nw (.map #[] 0) bo λbp bq=>And (bh bq) <| aV #[.slice bn.a bn.len bn.cap,.I bi,.I bj,.I bk,.I bl,.I bm,.pointer none,.slice none 0 0,.slice none 0 0,.map (some bp.block)] 46 bq λbr bs=>And (bh bs) <| bg (some br) bs) ∧ (Nw (.map #[] 0) s λbt bu=>And (bh bu) <| Wc.c a bu λbv bw=>And (bh bw) <| aV #[.slice bv.a bv.len bv.cap,.I bi,.I bj,.I bk,.I bl,.I bm,.pointer none,.slice none 0 0,.slice none 0 0,.map (some bt.block)] 46 bw λbx bz=>And (bh bz) <| bg (some bx) bz)))
theorem Ku.o {a b c d e f g h}(i:Ku.v a b c d e f g h):Ku.c a b c d e f g h:=Wa Tryz.func92 (x:=Ku.h) (R0 i)
def Zo.h:Hn:=.q .o1 (.q .o9 .aL)
def Zo.v (a:R2)(b:Int)(c:Hp)(d:aN):Prop:=XY.c a b 2 0 0 0 c λe f g=>d f g
theorem Zo.o {a b c d}(e:Zo.v a b c d):Zo.c a b c d:=Wa Tryz.func96 (x:=Zo.h) (R0 e)
def Zl.h:Hn:=.q .o1 (.q .o6 .l)
def Zl.v (a:R2)(b c:Int)(d:Hp)(e:aN):Prop:=Zr.c a d λf g=>Yz.c f b c g λh i=>e h i
theorem Zl.o {a b c d e}(f:Zl.v a b c d e):Zl.c a b c d e:=Wa Tryz.func97 (x:=Zl.h) (R0 f)
def Yi.h:Hn:=.q .o2 (.q (.k (.q .o4 (.c .aM (.q .o5 (.c .aM (.q .o10 .aK)))))) (.q .o4 (.q (.q .o2 .aK) (.q .o9 .aM))))
def Yi.v (a:R2)(b c d e f:Int)(g:Hp)(h:aN):Prop:=aV #[.I c,.I d,.I e,.I f] 142 g λi j=>WP.c a j λk l=>If (!k) (h 5 l) (YX.c a b l λm n=>If (!m) (h 1 n) (bE a 8 n λp=>Ix p.a p.len b 3 λq=>bA q 2 n λr=>And (IsIf r) <| If (!(nilI r)) (h 5 n) (aQ i 0 n λs=>aQ i 1 n λt=>aQ i 2 n λu=>aQ i 3 n λv=>Yu.c a s t u v n λw x=>And (IsIf w) <| If (nilI w) (h 1 x) (bE a 8 x λz=>Ix z.a z.len b 3 λaa=>And (IsIf w) <| aR aa 2 (w) x λab=>h 0 ab))))
theorem Yi.o {a b c d e f g h}(i:Yi.v a b c d e f g h):Yi.c a b c d e f g h:=Wa Tryz.func98 (x:=Yi.h) (R0 i)
def Y9.h:Hn:=.q .o3 (.q (.k (.q .o4 (.c (.q .o4 .l) (.q .o5 (.c (.q .o4 .l) (.q .o10 (.c (.q .o4 .l) .l))))))) (.q (.o 17) (.q .o9 (.q (.reg (.tail 4 (RI.ops 4) [.op,.op])) .l))))
def Y9.v (a:R2)(b:Int)(c:Hp)(d:Bool->Int->Int->Int->Hp->Prop):Prop:=aV #[.I 0,.I 0] 156 c λe f=>WP.c a f λg h=>If (!g) (aR e 0 (.I 0) h λi=>aR e 1 (.I 0) i λj=>aQ e 0 j λk=>aQ e 1 j λl=>d false k l 5 j) (YX.c a b h λm n=>If (!m) (aR e 0 (.I 0) n λo=>aR e 1 (.I 0) o λp=>aQ e 0 p λq=>aQ e 1 p λr=>d false q r 1 p) (bE a 8 n λt=>Ix t.a t.len b 3 λu=>bA u 2 n λv=>And (IsIf v) <| If (nilI v) (aR e 0 (.I 0) n λw=>aR e 1 (.I 0) w λx=>aQ e 0 x λy=>aQ e 1 x λz=>d false y z 5 x) (bE a 8 n λab=>Ix ab.a ab.len b 3 λac=>bA ac 2 n λad=>ZB.c a b (ad) n λae af ag ah=>aV #[.I 0,.I 0] 156 ah λai aj=>aR ai 0 (.I af) aj λak=>aR ai 1 (.I ag) ak λal=>bE a 8 al λan=>Ix an.a an.len b 3 λao=>And (IsIf ae) <| aR ao 2 (ae) al λap=>And (IsIf ae) <| aQ ai 0 ap λaq=>aQ ai 1 ap λar=>aR e 0 (.I aq) ap λau=>aR e 1 (.I ar) au λav=>aQ e 0 av λaw=>aQ e 1 av λax=>d (nilI ae) aw ax 0 av)))
theorem Y9.o {a b c d}(e:Y9.v a b c d):Y9.c a b c d:=Wa Tryz.func99 (x:=Y9.h) (R0 e)
def Yx.h:Hn:=.q .o2 (.q (.k (.q .o4 (.c .aL (.q .o3 .aJ)))) (.q .o1 (.q (.q .o6 (.k (.loop [(6,.I),(23,.I)] (.q .o1 (.q (.c .l .l) (.q (.k (.q .o3 (.q (.q .o3 (.c .l .l)) (.q .o10 .o4)))) .o2)))))) (.q .o3 .l))))
def Yx.v (a:R2)(b:Int)(c:Hp)(d:Int->Int->Hp->Prop):Prop:=WP.c a c λe f=>If (!e) (d 0 5 f) (If (b<0) (d 0 1 f) (bE a 7 f λh=>W8 [bN,bN] (λi=>i 0 0 f) λj (k:Int) (l:Int) m=>If (l<((h.len:Nat):Int)) (Ix h.a h.len l 1 λn=>LdP n m λo=>If (k≥b) (d k 0 m) (bL (b-k) λp=>Xj.c o p m λq r s=>bL (k+q) λt=>bL (l+1) λu=>j t u s)) (d k 0 m)))
theorem Yx.o {a b c d}(e:Yx.v a b c d):Yx.c a b c d:=Wa Tryz.func100 (x:=Yx.h) (R0 e)
def Zy.h:Hn:=.q .o1 (.q (.q .o3 .aK) (.q .o1 (.q (.q .o6 (.k (.loop [(3,.I),(14,.I)] (.q .o1 (.q (.c .l .l) (.q (.k (.q .o3 .o5)) .o2)))))) .aL)))
def Zy.v (a:R2)(b:Hp)(c:aN):Prop:=WP.c a b λd e=>If (!d) (c 0 e) (bE a 7 e λg=>W8 [bN,bN] (λh=>h 0 0 e) λi (j:Int) (k:Int) l=>If (k<((g.len:Nat):Int)) (Ix g.a g.len k 1 λm=>LdP m l λn=>Yc.c n l λo p=>bL (j+o) λq=>bL (k+1) λr=>i q r p) (c j l))
theorem Zy.o {a b c}(d:Zy.v a b c):Zy.c a b c:=Wa Tryz.func101 (x:=Zy.h) (R0 d)
def ZD.h:Hn:=.q (.q .o3 (.c .l .l)) (.q .o6 (.k (.loop [(12,.I)] (.q .o1 (.q (.c .l .l) (.q (.k (.q .o3 .o2)) .o2))))))
def ZD.v (a:R2)(b:Hp)(c:aP):Prop:=WP.c a b λd e=>If (!d) (c e) (bE a 7 e λg=>W8 [bN] (λh=>h 0 e) λi (j:Int) k=>If (j<((g.len:Nat):Int)) (Ix g.a g.len j 1 λl=>LdP l k λm=>Zb.c m k λn=>bL (j+1) λo=>i o n) (c k))
theorem ZD.o {a b c}(d:ZD.v a b c):ZD.c a b c:=Wa Tryz.func102 (x:=ZD.h) (R0 d)
def Zg.h:Hn:=.q .o1 (.q .o5 .l)
def Zg.v (a:R2)(b:Addr)(c:Hp)(d:aO):Prop:=bM b c λe=>Nz 256<|bL (e.tdiv 256) λf=>Y1.c a f c λg h=>d g h
theorem Zg.o {a b c d}(e:Zg.v a b c d):Zg.c a b c d:=Wa Tryz.func112 (x:=Zg.h) (R0 e)
def QB.h:Hn:=.q .o2 (.q (.reg (.seq [.op,.op,.op,.op,.grd true 3 (RI.ops 3),.op,.grd true 4 (RI.ops 4),.op,.grd true 3 (RI.ops 3),.op,.grd true 3 (RI.ops 3),.op,.grd true 3 (RI.ops 3),.op,.grd true 3 (RI.ops 3),.op,.grd true 3 (RI.ops 3),.op,.grd true 3 (RI.ops 3),.op,.grd true 3 (RI.ops 3),.op,.grd true 3 (RI.ops 3),.op])) .l)
def QB.v (a b c d e:Int)(f:Hp)(g:aO):Prop:=aV #[.I a,.I b,.I c,.I d,.I e] 40 f λh i=>aQ h 0 i λj=>JnB (λk l=>JnB (λm n=>JnB (λo p=>JnB (λq r=>JnB (λs t=>JnB (λu v=>JnB (λw x=>JnB (λy z=>JnB (λaa ab=>JnB (λac ad=>g ac ad) λae=>If aa (aQ h 4 ab λaf=>ae (decide (af<=8)) ab) (ae false ab)) λag=>If y (aQ h 4 z λah=>ag (decide (ah≥0)) z) (ag false z)) λai=>If w (aQ h 3 x λaj=>ai (decide (aj<=65536)) x) (ai false x)) λak=>If u (aQ h 3 v λal=>ak (decide (al≥0)) v) (ak false v)) λam=>If s (aQ h 2 t λan=>am (decide (an<=4)) t) (am false t)) λao=>If q (aQ h 2 r λap=>ao (decide (ap≥1)) r) (ao false r)) λaq=>If o (aQ h 1 p λar=>aq (decide (ar<=4)) p) (aq false p)) λau=>If m (aQ h 1 n λav=>au (decide (av≥1)) n) (au false n)) λaw=>If k (aQ h 0 l λax=>Nz 16 <| aw ((ax.tmod 16)==0) l) (aw false l)) λay=>If (j≥32) (aQ h 0 i λaz=>ay (decide (az<=1024)) i) (ay false i)
theorem QB.o {a b c d e f g}(h:QB.v a b c d e f g):QB.c a b c d e f g:=Wa Tryz.func123 (x:=QB.h) (R0 h)
def YX.h:Hn:=.q .o1 (.q (.reg (.seq [.op,.op,.op,.grd true 7 (RI.ops 7),.op])) .l)
def YX.v (a:R2)(b:Int)(c:Hp)(d:aO):Prop:=JnB (λe f=>d e f) λg=>If (b≥0) (bE a 8 c λi=>g (decide (b<((i.len:Nat):Int))) c) (g false c)
theorem YX.o {a b c d}(e:YX.v a b c d):YX.c a b c d:=Wa Tryz.func131 (x:=YX.h) (R0 e)
def Yu.h:Hn:=.q .o2 (.q (.q .o2 (.k (.q .o2 (.c (.q (.q (.reg (.seq [.op,.op,.op,.op,.grd false 3 (RI.ops 3)])) .aK) (.q (.reg (.held true [8] (.tk [0,1,2,3,4,5,6,7] (.all [(8,.tk [9,10,11,12,13] (.done))])))) (.q .o1 (.k (.q .o2 (.c (.q .o4 .l) (.q .o2 (.c (.q .o8 .l) .l)))))))) (.q .o2 (.c (.q .o5 .l) (.q .o2 (.c (.q .o3 .l) .l)))))))) .aM)
def Yu.v (a:R2)(b c d e:Int)(f:Hp)(g:Value->Hp->Prop):Prop:=aV #[.I b,.I c,.I d,.I e] 142 f λh i=>aQ h 0 i λj=>If (j==0) (aQ h 1 i λk=>JnB (λl m=>If l (g (.nilIface) m) (Held m λn=>NilP a λo=>aT n o 0 λp=>aS n h 1 λq=>aS n h 2 λr=>Z1.c p q r m λs t u=>If (t==0) (g (.iface 260 (.agg #[.I s])) u) (If (t==4) (aQ h 1 u λv=>bL (v+256) λw=>bL (w-1) λx=>Nz 256<|bL (x.tdiv 256) λy=>g (.iface 262 (.agg #[.I y])) u) (g (.nilIface) u)))) λz=>If (k<1) (z true i) (aQ h 1 i λaa=>z (decide (aa>16384)) i)) (If (j==1) (aQ h 3 i λab=>g (.iface 264 (.agg #[.I ab])) i) (If (j==2) (g (.iface 266 (.agg #[])) i) (g (.nilIface) i)))
theorem Yu.o {a b c d e f g}(h:Yu.v a b c d e f g):Yu.c a b c d e f g:=Wa Tryz.func132 (x:=Yu.h) (R0 h)
def ZB.h:Hn:=.q .o2 (.q .o7 (.q (.reg (.held true [] (.tk [0,1,2,3,4,5] (.all [(6,.take 7 (.all [(8,.take 9 (.done))]))])))) (.sjn [] (.q .o1 (.k (.q .o3 (.c (.q .o2 (.q (.q (.reg (.held true [6] (.tk [0,1,2,3,4,5] (.all [(6,.tk [7,8,9,10,11] (.done))])))) (.q .o2 (.c (.q (.reg (.held true [17] (.tk [0,1,2,3,4,5,6,7,8,9,10,11,12] (.all [(13,.tk [14,15,16] (.all [(17,.done)]))])))) .l) .l))) (.q (.reg (.held true [6] (.tk [0,1,2,3,4,5] (.all [(6,.tk [7,8,9,10,11] (.done))])))) (.q .o8 .l)))) (.q .o3 (.c (.q .o2 (.sjn [] (.q (.oq 12) (.c (.q .o9 (.q .o2 (.c (.q .o6 (.q .o5 .l)) .l))) .l)) (.q .o5 .l))) (.q .o3 (.c (.q .o2 (.q (.q (.o 11) (.q .o3 (.c (.q .o6 (.q .o5 .l)) .l))) (.q .o5 .l))) (.q .o3 (.c (.q .o2 (.q (.q .o5 (.q .o2 (.c (.q .o4 .l) .l))) (.q .o5 .l))) (.q .o3 (.c (.q .o2 (.q .o8 (.q .o4 (.q (.reg (.tail 9 (RI.ops 9) [.op])) (.q (.reg (.held true [20] (.tk [0,1,2,3,4,5,6,7,8,9,10,11,12,13,14,15] (.all [(16,.tk [17,18,19] (.all [(20,.done)]))])))) .l))))) (.q .o3 (.c (.q .o2 (.q .o9 (.q (.q .o2 (.c (.q .o4 .l) .l)) (.q (.o 11) .l)))) (.q .o3 (.c (.q .o2 (.q .o9 .l)) (.q .o3 (.c (.q .o2 (.sjn [] (.q (.reg (.held true [8] (.tk [0,1,2,3,4,5,6,7] (.all [(8,.tk [9,10,11,12,13] (.done))])))) (.q .o3 (.c .o6 .l))) (.q .o9 (.sjn [] (.q .o5 (.c (.reg (.held true [13] (.tk [0,1,2,3,4,5,6,7,8] (.all [(9,.all [(10,.take 11 (.take 12 (.all [(13,.done)])))])])))) .l)) (.q .o6 .l))))) (.q .o3 (.c (.q .o2 (.q .o8 (.q .o10 (.q (.reg (.held true [5] (.take 0 (.take 1 (.take 2 (.take 4 (.all [(3,.all [(5,.done)])]))))))) (.q .o6 .l))))) (.q .o3 (.c (.q .o2 (.reg (.tail 10 (RI.ops 10) [.op]))) (.q .o3 (.c (.q .o2 (.q .o9 (.q .o6 .l))) .l)))))))))))))))))))))))) (.q .o3 .l))))
def ZB.v (a:R2)(b:Int)(c:Value)(d:Hp)(e:Value->Int->Int->Hp->Prop):Prop:=aV #[.I 0,.I 0] 156 d λf g=>bE a 8 g λi=>Ix i.a i.len b 3 λj=>Held g λk=>NilP a λl=>aT k l 7 λm=>ZE.c a b g λn o=>And (k o) <| Ix m.a m.len n 1 λp=>LdP p o λq=>And (k o) <| Jn [] (λr=>aR f 0 (.I 0) r λs=>aR f 1 (.I 0) s λt=>aQ f 0 t λu=>aQ f 1 t λv=>e (.nilIface) u v t) λw=>∃t52:Int,∃is:Bool,AsB c 260 [.I t52] [.I 0] is ∧ (If is (aV #[.I 0] 260 o λx y=>St1 x (.I t52) y λz=>Held z λaa=>NilP (some j) λab=>aU aa ab 0 λac=>aS aa x 0 λad=>Yh.c ac ad z λae af ag=>If (af==0) (Held ag λah=>NilP a λai=>aT ah ai 0 λaj=>aS ah x 0 λak=>Ix aj.a aj.len ak 3 λal=>aS ah al 0 λam=>aS ah x 0 λan=>Zc.c a ae am an ag λao ap aq ar=>And (ah ar) <| aR f 0 (.I ap) ar λau=>aR f 1 (.I aq) au λav=>aQ f 0 av λaw=>aQ f 1 av λax=>e (ao) aw ax av) (Held ag λay=>NilP (some j) λaz=>aU ay az 0 λa0=>aS ay x 0 λa1=>Ye.c a0 a1 ag λa2 a3 a4=>aQ x 0 a4 λa5=>aR f 0 (.I 0) a4 λa6=>aR f 1 (.I 0) a6 λa7=>aQ f 0 a7 λa8=>aQ f 1 a7 λa9=>e (.iface 270 (.agg #[.I a5,.I a2])) a8 a9 a7)) (∃t99:Int,∃t991:Int,∃is1:Bool,AsB c 270 [.I t99,.I t991] [.I 0,.I 0] is1 ∧
 (If is1 (aV #[.I 0,.I 0] 270 o λba bb=>aR ba 0 (.I t99) bb λbc=>aR ba 1 (.I t991) bc λbd=>Jn [] (λbe=>aQ ba 0 be λbf=>aQ ba 1 be λbg=>aR f 0 (.I 0) be λbh=>aR f 1 (.I 0) bh λbi=>aQ f 0 bi λbj=>aQ f 1 bi λbk=>e (.iface 275 (.agg #[.I bf,.I bg])) bj bk bi) λbl=>aQ ba 1 bd λbm=>bE a 0 bd λbo=>aQ ba 0 bd λbp=>Ix bo.a bo.len bp 3 λbq=>aQ bq 2 bd λbr=>If (bm==br) (aQ ba 0 bd λbs=>Wz.c q bs bd λbt bu bv=>If (bu==0) (aQ ba 0 bv λbw=>YF.c a b bw bt bv λbx=>aR f 0 (.I 0) bx λbz=>aR f 1 (.I 0) bz λb0=>aQ f 0 b0 λb1=>aQ f 1 b0 λb2=>e (.iface 274 (.agg #[])) b1 b2 b0) (bl bv)) (bl bd)) (∃t135:Int,∃t1351:Int,∃is2:Bool,AsB c 275 [.I t135,.I t1351] [.I 0,.I 0] is2 ∧ (If is2 (aV #[.I 0,.I 0] 275 o λb3 b4=>aR b3 0 (.I t135) b4 λb5=>aR b3 1 (.I t1351) b5 λb6=>aQ b3 0 b6 λb7=>aQ b3 1 b6 λb8=>WE.c q b7 b8 b6 λb9 ca cb=>If (((b9.len:Nat):Int)>0) (aQ b3 0 cb λcc=>YF.c a b cc b9 cb λcd=>aR f 0 (.I 0) cd λce=>aR f 1 (.I 0) ce λcf=>aQ f 0 cf λcg=>aQ f 1 cf λch=>e (.iface 274 (.agg #[])) cg ch cf) (aQ b3 0 cb λci=>aQ b3 1 cb λcj=>aR f 0 (.I 0) cb λck=>aR f 1 (.I 0) ck λcl=>aQ f 0 cl λcm=>aQ f 1 cl λcn=>
 e (.iface 277 (.agg #[.I ci,.I cj])) cm cn cl)) (∃t162:Int,∃t1621:Int,∃is3:Bool,AsB c 277 [.I t162,.I t1621] [.I 0,.I 0] is3 ∧ (If is3 (aV #[.I 0,.I 0] 277 o λco cp=>aR co 0 (.I t162) cp λcq=>aR co 1 (.I t1621) cq λcr=>aQ co 0 cr λcs=>Yp.c q cs cr λct cu=>If (ct != 0) (aR f 0 (.I 0) cu λcv=>aR f 1 (.I ct) cv λcw=>aQ f 0 cw λcx=>aQ f 1 cw λcy=>e (.nilIface) cx cy cw) (aQ co 0 cu λcz=>aQ co 1 cu λc0=>aR f 0 (.I 0) cu λc1=>aR f 1 (.I 0) c1 λc2=>aQ f 0 c2 λc3=>aQ f 1 c2 λc4=>e (.iface 275 (.agg #[.I cz,.I c0])) c3 c4 c2)) (∃is4:Bool,AsB c 274 [] [] is4 ∧ (If is4 (aV #[] 274 o λc5 c6=>bE (some j) 1 c6 λc8=>Ix c8.a c8.len 0 2 λc9=>aQ c9 0 c6 λda=>aX c9 1 c6 λdb=>aV #[.I 0,.slice none 0 0] 130 c6 λdc dd=>aR dc 0 (.I da) dd λde=>aR dc 1 (.slice db.a db.len db.cap) de λdf=>NilP (some j) λdg=>aR dg 1 (.slice none 0 0) df λdh=>bF (some j) 0 dh λdj=>aQ dc 0 dh λdk=>aX dc 1 dh λdl=>SlcL dl 1 1 (dl.len:Nat) (dl.cap:Nat) λdm=>Yo.c dj dk dm dh λdn dp=>Held dp λdq=>aT dq dc 1 λdr=>Ix dr.a dr.len 0 1 λds=>LdH dq bN ds λ(dt:Int)=>NilP a λdu=>aT dq du 0 λdv=>aS dq dc 0 λdw=>Ix dv.a dv.len dw 3 λdx=>aS dq dx 0 λdy=>
 aS dq dc 0 λdz=>Zc.c a dt dy dz dp λd0 d1 d2 d3=>And (dq d3) <| aR f 0 (.I d1) d3 λd4=>aR f 1 (.I d2) d4 λd5=>aQ f 0 d5 λd6=>aQ f 1 d5 λd7=>e (d0) d6 d7 d5) (∃t217:Int,∃is5:Bool,AsB c 262 [.I t217] [.I 0] is5 ∧ (If is5 (aV #[.I 0] 262 o λd8 d9=>St1 d8 (.I t217) d9 λea=>aQ d8 0 ea λeb=>WS.c q eb 1 ea λec ed ee=>If (ed != 0) (aR f 0 (.I 0) ee λef=>aR f 1 (.I ed) ef λeg=>aQ f 0 eg λeh=>aQ f 1 eg λei=>e (.nilIface) eh ei eg) (bL (ec*256) λej=>aQ d8 0 ee λek=>bL (ek*256) λel=>Zc.c a ej el (-1) ee λem en eo ep=>aR f 0 (.I en) ep λeq=>aR f 1 (.I eo) eq λer=>aQ f 0 er λes=>aQ f 1 er λet=>e (em) es et er)) (∃t240:Int,∃is6:Bool,AsB c 264 [.I t240] [.I 0] is6 ∧ (If is6 (aV #[.I 0] 264 o λeu ev=>St1 eu (.I t240) ev λew=>aQ eu 0 ew λex=>Zx.c a b ex ew λey ez e0 e1=>aR f 0 (.I ez) e1 λe2=>aR f 1 (.I e0) e2 λe3=>aQ f 0 e3 λe4=>aQ f 1 e3 λe5=>e (ey) e4 e5 e3) (∃t250:Int,∃t2501:Int,∃is7:Bool,AsB c 282 [.I t250,.I t2501] [.I 0,.I 0] is7 ∧ (If is7 (aV #[.I 0,.I 0] 282 o λe6 e7=>aR e6 0 (.I t250) e7 λe8=>aR e6 1 (.I t2501) e8 λe9=>Jn [] (λfa=>bE (some j) 1 fa λfc=>SlcL fc 2 1 (fc.len:Nat) (fc.cap:Nat) λfd=>NilP (some j) λfe=>aR fe 1 (.slice fd.a fd.len fd.cap) fa λff=>Jn [] (λfg=>
 W4.c a b fg λfh fi=>aR f 0 (.I 0) fi λfj=>aR f 1 (.I 0) fj λfk=>aQ f 0 fk λfl=>aQ f 1 fk λfm=>e (fh) fl fm fk) λfn=>bF (some j) 0 ff λfp=>Ym.c fp ff λfq fr=>If fq (Held fr λfs=>NilP (some j) λft=>aT fs ft 1 λfu=>NilP (some j) λfv=>aU fs fv 0 λfw=>Xc.c fw fr λfx fy=>And (fs fy) <| App fu 2 32 130 [.I 0,.slice none 0 0] fx fy λfz f0=>And (fs f0) <| NilP (some j) λf1=>aR f1 1 (.slice fz.a fz.len fz.cap) f0 λf2=>fn f2) (fn fr)) λf3=>Held e9 λf4=>NilP (some j) λf5=>aU f4 f5 0 λf6=>aS f4 e6 0 λf7=>aS f4 e6 1 λf8=>YR.c f6 f7 f8 e9 λf9 ga gb=>If (((f9.len:Nat):Int)>0) (aQ e6 0 gb λgc=>YF.c a b gc f9 gb λgd=>f3 gd) (f3 gb)) (∃is8:Bool,AsB c 285 [] [] is8 ∧ (If is8 (aV #[] 285 o λge gf=>bE (some j) 1 gf λgh=>Ix gh.a gh.len 0 2 λgi=>aQ gi 0 gf λgj=>aX gi 1 gf λgk=>aV #[.I 0,.slice none 0 0] 130 gf λgl gm=>aR gl 0 (.I gj) gm λgn=>aR gl 1 (.slice gk.a gk.len gk.cap) gn λgo=>bE (some j) 1 go λgq=>SlcL gq 2 1 (gq.len:Nat) (gq.cap:Nat) λgr=>Wp.c gr go λgs gt=>NilP (some j) λgu=>aR gu 1 (.slice gs.a gs.len gs.cap) gt λgv=>Held gv λgw=>aS gw gl 0 λgx=>aT gw gl 1 λgy=>ZE.c a b gv λgz g0=>And (gw g0) <| Zz.c a gz gx gy g0 λg1=>
 W4.c a b g1 λg2 g3=>aR f 0 (.I 0) g3 λg4=>aR f 1 (.I 0) g4 λg5=>aQ f 0 g5 λg6=>aQ f 1 g5 λg7=>e (g2) g6 g7 g5) (∃t332:Int,∃t3321:Int,∃is9:Bool,AsB c 289 [.I t332,.I t3321] [.I 0,.I 0] is9 ∧ (If is9 (aV #[.I 0,.I 0] 289 o λg8 g9=>aR g8 0 (.I t332) g9 λha=>aR g8 1 (.I t3321) ha λhb=>bE a 7 hb λhd=>aQ g8 1 hb λhe=>Ix hd.a hd.len he 1 λhf=>LdP hf hb λhg=>aQ g8 0 hb λhh=>WR.c hg hh hb λhi hj=>w hj) (∃is10:Bool,AsB c 266 [] [] is10 ∧ (If is10 (aV #[] 266 o λhk hl=>bF (some j) 0 hl λhn=>XR.c hn hl λho hp=>NilP (some j) λhq=>aR hq 1 (.slice ho.a ho.len ho.cap) hp λhr=>W4.c a b hr λhs ht=>aR f 0 (.I 0) ht λhu=>aR f 1 (.I 0) hu λhv=>aQ f 0 hv λhw=>aQ f 1 hv λhx=>e (hs) hw hx hv) (w o))))))))))))))))))))))
theorem ZB.o {a b c d e}(f:ZB.v a b c d e):ZB.c a b c d e:=Wa Tryz.func133 (x:=ZB.h) (R0 f)
def ZE.h:Hn:=.q .o1 (.q .o8 .l)
def ZE.v (a:R2)(b:Int)(c:Hp)(d:aN):Prop:=bE a 7 c λf=>Nz ((f.len:Nat):Int) <| d (b.tmod ((f.len:Nat):Int)) c
theorem ZE.o {a b c d}(e:ZE.v a b c d):ZE.c a b c d:=Wa Tryz.func170 (x:=ZE.h) (R0 e)
def Zc.h:Hn:=.q .o2 (.q (.reg (.held true [12] (.tk [0,1,2,3,4,5,6,7,8,9] (.all [(10,.take 11 (.all [(12,.done)]))])))) (.q .o4 .l))
def Zc.v (a:R2)(b c d:Int)(e:Hp)(f:Value->Int->Int->Hp->Prop):Prop:=aV #[.I 0,.I 0] 156 e λg h=>Held h λi=>NilP a λj=>LdH i .m (j.add 9) λ(k:Option Nat)=>Yd.c a b h λl m=>And (i m) <| MSet .i64 (.ag 4) k b (b,c,d,l) m λn=>aR g 0 (.I b) n λo=>aR g 1 (.I 0) o λp=>aQ g 0 p λq=>aQ g 1 p λr=>f (.nilIface) q r p
theorem Zc.o {a b c d e f}(g:Zc.v a b c d e f):Zc.c a b c d e f:=Wa Tryz.func172 (x:=Zc.h) (R0 g)
def YF.h:Hn:=.reg (.held true [20] (.tk [0,1,2,3,4,5,6,7,8,9,10,11,12,13,14,15] (.all [(16,.all [(17,.take 18 (.take 19 (.all [(20,.done)])))])])))
def YF.v (a:R2)(b c:Int)(d:Sl)(e:Hp)(f:aP):Prop:=Held e λg=>NilP a λh=>aT g h 8 λi=>NilP a λj=>aT g j 8 λk=>Ix k.a k.len b 3 λl=>aT g l 1 λm=>aV #[.I c,.slice d.a d.len d.cap] 130 e λn o=>And (g o) <| App m 2 32 130 [.I 0,.slice none 0 0] ⟨some n,1,1⟩ o λp q=>And (g q) <| Ix i.a i.len b 3 λr=>aR r 1 (.slice p.a p.len p.cap) q λs=>f s
theorem YF.o {a b c d e f}(g:YF.v a b c d e f):YF.c a b c d e f:=Wa Tryz.func175 (x:=YF.h) (R0 g)
def Zx.h:Hn:=.q .o2 (.q (.o 12) (.q (.q .o2 (.c (.sjn [] (.q .o4 (.q .o2 (.c (.q (.o 16) (.q (.reg (.seq [.op,.op,.op,.grd true 2 [.op,.op],.op,.grd true 3 (RI.ops 3)])) (.c (.q .o3 .l) .l))) .l))) (.q .o3 .l)) .l)) (.q .o6 (.q (.q .o3 (.c (.q .o9 .l) .l)) (.q .o7 (.q .o8 .l))))))
def Zx.v (a:R2)(b c:Int)(d:Hp)(e:Value->Int->Int->Hp->Prop):Prop:=aV #[.I 0,.I 0] 156 d λf g=>bI a 9 g λi=>Lk .i64 (.ag 4) i c g λj=>aV #[.I 0,.I 0,.I 0,.I 0] 76 g λk l=>aR k 0 (.I ((j.getD (0,0,0,0)).1)) l λm=>aR k 1 (.I ((j.getD (0,0,0,0)).2.1)) m λn=>aR k 2 (.I ((j.getD (0,0,0,0)).2.2.1)) n λo=>aR k 3 (.I ((j.getD (0,0,0,0)).2.2.2)) o λp=>If (!j.isSome) (Jn [] (λq=>aR f 0 (.I 0) q λr=>aR f 1 (.I 8) r λs=>aQ f 0 s λt=>aQ f 1 s λu=>e (.nilIface) t u s) λv=>Yd.c a c p λw x=>If (w≥0) (bE a 7 x λz=>Ix z.a z.len w 1 λaa=>LdP aa x λab=>YZ.c ab c x λac ad ae af=>JnB (λag ah=>JnB (λai aj=>If ai (aR f 0 (.I 0) aj λak=>aR f 1 (.I 9) ak λal=>aQ f 0 al λam=>aQ f 1 al λan=>e (.nilIface) am an al) (v aj)) λao=>If ag (ao (ad==c) ah) (ao false ah)) λap=>If (ae==0) (ap (decide (ac≥0)) af) (ap false af)) (v x)) (bI a 9 p λar=>MDel .i64 (.ag 4) ar c p λau=>aQ k 2 au λav=>If (av<0) (Nz 256<|bL (c.tdiv 256) λaw=>aQ k 3 au λax=>aR f 0 (.I 0) au λay=>aR f 1 (.I 0) ay λaz=>aQ f 0 az λa0=>aQ f 1 az λa1=>e (.iface 289 (.agg #[.I aw,.I ax])) a0 a1 az) (aQ k 2 au λa2=>aV #[.I c] 3 au λa3 a4=>YF.c a b a2 ⟨some a3,1,1⟩ a4 λa5=>aQ k 2 a5 λa6=>aR f 0 (.I 0) a5 λa7=>
 aR f 1 (.I 0) a7 λa8=>aQ f 0 a8 λa9=>aQ f 1 a8 λba=>e (.iface 282 (.agg #[.I a6,.I c])) a9 ba a8))
theorem Zx.o {a b c d e}(f:Zx.v a b c d e):Zx.c a b c d e:=Wa Tryz.func180 (x:=Zx.h) (R0 f)
def W4.h:Hn:=.q .o1 (.q (.q .o10 .aK) (.q .o3 .l))
def W4.v (a:R2)(b:Int)(c:Hp)(d:Value->Hp->Prop):Prop:=bE a 8 c λf=>Ix f.a f.len b 3 λg=>aX g 1 c λh=>If (((h.len:Nat):Int)==0) (d (.nilIface) c) (d (.iface 285 (.agg #[])) c)
theorem W4.o {a b c d}(e:W4.v a b c d):W4.c a b c d:=Wa Tryz.func184 (x:=W4.h) (R0 e)
def Zz.h:Hn:=.q .o1 (.q .o7 (.q (.q .o4 (.k (.loop [(23,.I)] (.q .o1 (.q (.c .l .l) (.q (.k (.q .o3 (.q .o4 (.o 11)))) .o2)))))) (.sjn [] (.q (.oq 9) (.c (.q (.reg (.held true [] (.tk [0,1,2,3,4,5,6,7,8,9,10] (.all [(11,.tk [12,13,14,15,16] (.done))])))) (.q (.reg (.seq [.op,.op,.grd true 2 [.op,.op]])) (.c .l .l))) .l)) (.q .o3 (.k (.loop [(72,.I)] (.q .o1 (.q (.c .l .l) (.q (.k (.q .o5 (.q .o3 (.c (.reg (.tail 10 (RI.ops 10) [.op])) .l)))) .o2)))))))))
def Zz.v (a:R2)(b c:Int)(d:Sl)(e:Hp)(f:aP):Prop:=aV #[.I c,.slice d.a d.len d.cap] 130 e λg h=>NilP a λi=>aX i 7 h λj=>Mk ((j.len:Nat):Int) ((j.len:Nat):Int) 24 69 [.slice none 0 0] h λk l=>aX g 1 l λm=>W8 [bN] (λn=>n 0 l) λo (p:Int) q=>If (p<((m.len:Nat):Int)) (Ix m.a m.len p 1 λr=>bM r q λs=>Yd.c a s q λt u=>Ix k.a k.len t 1 λv=>LdS v u λw=>aV #[.I s] 3 u λx y=>App w 1 8 3 [.I 0] ⟨some x,1,1⟩ y λz aa=>Ix k.a k.len t 1 λab=>St1 ab (.slice z.a z.len z.cap) aa λac=>bL (p+1) λad=>o ad ac) (Jn [] (λae=>W8 [bN] (λaf=>af 0 ae) λag (ah:Int) ai=>If (ah<((k.len:Nat):Int)) (Ix k.a k.len ah 1 λaj=>LdS aj ai λak=>If (((ak.len:Nat):Int)>0) (bE a 7 ai λam=>Ix am.a am.len ah 1 λan=>LdP an ai λao=>aQ g 0 ai λap=>WA.c ao ap ak ai λaq ar=>bL (ah+1) λau=>ag au ar) (bL (ah+1) λav=>ag av ai)) (f ai)) λaw=>Ix k.a k.len b 1 λax=>LdS ax q λay=>aX g 1 q λaz=>If (((ay.len:Nat):Int)==((az.len:Nat):Int)) (Held q λa0=>NilP a λa1=>aT a0 a1 7 λa2=>Ix a2.a a2.len b 1 λa3=>LdH a0 .p a3 λ(a4:R2)=>aS a0 g 0 λa5=>aT a0 g 1 λa6=>WJ.c a4 a5 a6 q λa7 a8 a9=>And (a0 a9) <| JnB (λba bb=>If ba (f bb) (aw bb)) λbc=>If a7 (bc (a8==0) a9) (bc false a9)) (aw q))
theorem Zz.o {a b c d e f}(g:Zz.v a b c d e f):Zz.c a b c d e f:=Wa Tryz.func186 (x:=Zz.h) (R0 g)
end Go.Proofs
namespace Go.Ar
open Go Go.Vc Go.Proofs
def phV:Option Ph->Value
 | none=>.nilIface
 | some (.take k)=>.iface 260 (.agg #[.int .i64 (k:Int)])
 | some (.transfer k w)=>.iface 270 (.agg #[.int .i64 (k:Int),.int .i64 (w:Int)])
 | some (.central k w)=>.iface 275 (.agg #[.int .i64 (k:Int),.int .i64 (w:Int)])
 | some (.grow k w)=>.iface 277 (.agg #[.int .i64 (k:Int),.int .i64 (w:Int)])
 | some .fill=>.iface 274 (.agg #[])
 | some (.large m)=>.iface 262 (.agg #[.int .i64 (m:Int)])
 | some (.find x)=>.iface 264 (.agg #[.int .i64 x])
 | some (.put k x)=>.iface 282 (.agg #[.int .i64 (k:Int),.int .i64 x])
 | some .back=>.iface 285 (.agg #[])
 | some (.give s a)=>.iface 289 (.agg #[.int .i64 s,.int .i64 a])
 | some .drain=>.iface 266 (.agg #[])
theorem Wdt (p:Option Ph):IsIf (phV p):=by
 cases p with
 | none=>exact .inl rfl
 | some p=>cases p<;>exact .inr ⟨_,_,rfl⟩
theorem Wb1 (p:Option Ph):nilI (phV p)=p.isNone:=by
 cases p with
 | none=>rfl
 | some p=>cases p<;>rfl
inductive LbH where
 | hd|tab|sp|arow|trow|live
 | ar (k:Nat)
 | ca (k:Nat)
 | hn (k:Nat)
 deriving DecidableEq
structure LayT where
 c:LayC
 h:Sl
structure LayH where
 p:Nat
 hs:Nat
 lm:Nat
 tab:Sl
 arow:Sl
 trow:Sl
 ys:List Lay
 ts:List LayT
def hdH (L:LayH)(c:Cf):List Value:=[.slice L.tab.a L.tab.len L.tab.cap,.int .i64 (c.pages:Int),.int .i64 (c.arenas:Int),.int .i64 (c.threads:Int),.int .i64 (c.budget:Int),.int .i64 (c.room:Int),
 .pointer (some ⟨L.hs,0,none⟩),.slice L.arow.a L.arow.len L.arow.cap,.slice L.trow.a L.trow.len L.trow.cap,.map (some L.lm)]
def thV (x:LayT×Th):List Value:=[.pointer (some ⟨x.1.c.p,0,none⟩),.slice x.1.h.a x.1.h.len x.1.h.cap,phV x.2.ph]
def trV (ts:List LayT)(ths:List Th):List Value:=(ts.zip ths).flatMap thV
theorem Gq:∀{ts:List LayT} {ths:List Th},ts.length=ths.length->(trV ts ths).length=ths.length*3
 | [],[],_=>rfl
 | x::ts,h::ths,e=>by
  have e1:trV (x::ts) (h::ths)=thV (x,h)++trV ts ths:=rfl;have a:(thV (x,h)).length=3:=rfl;rw[e1,zK,Gq (by simpa using e),a,zP];omega
 | [],_::_,e=>by simp at e
 | _::_,[],e=>by simp at e
theorem Wd8:∀{ts:List LayT} {ths:List Th} {i:Nat} {x:LayT} {h:Th},ts[i]?=some x->ths[i]?=some h->∀{d:Nat},d<3->(trV ts ths)[3*i+d]?=(thV (x,h))[d]?
 | [],_,_,_,_,h1,_,_,_=>by simp at h1
 | _::_,[],_,_,_,_,h2,_,_=>by simp at h2
 | y::ts,g::ths,0,x,h,h1,h2,d,hd=>by
  have e1:trV (y::ts) (g::ths)=thV (y,g)++trV ts ths:=rfl;have a:(thV (y,g)).length=3:=rfl;simp at h1 h2;subst h1;subst h2;rw[e1,ze O];congr 1;omega
 | y::ts,g::ths,i+1,x,h,h1,h2,d,hd=>by
  have e1:trV (y::ts) (g::ths)=thV (y,g)++trV ts ths:=rfl;have a:(thV (y,g)).length=3:=rfl;rw[e1,zm O,a,show 3*(i+1)+d-3=3*i+d by omega];exact Wd8 (by simpa using h1) (by simpa using h2) hd
theorem Wcn:∀{ts:List LayT} {ths:List Th} {i:Nat} {x:LayT} {h:Th},ts[i]?=some x->ths[i]?=some h->∀{d:Nat} {v:Value} {x':LayT} {h':Th},d<3->thV (x',h')=(thV (x,h)).set d v →
 (trV ts ths).set (3*i+d) v=trV (ts.set i x') (ths.set i h')
 | [],_,_,_,_,h1,_,_,_,_,_,_,_=>by simp at h1
 | _::_,[],_,_,_,_,h2,_,_,_,_,_,_=>by simp at h2
 | y::ts,g::ths,0,x,h,h1,h2,d,v,x',h',hd,e=>by
  have e1:trV (y::ts) (g::ths)=thV (y,g)++trV ts ths:=rfl;have a:trV ((y::ts).set 0 x') ((g::ths).set 0 h')=thV (x',h')++trV ts ths:=rfl;have b:(thV (y,g)).length=3:=rfl;simp at h1 h2;subst h1;subst h2;rw[e1,a,List.set_append_left _ _ O,e,show 3*0+d=d by omega]
 | y::ts,g::ths,i+1,x,h,h1,h2,d,v,x',h',hd,e=>by
  have e1:trV (y::ts) (g::ths)=thV (y,g)++trV ts ths:=rfl;have a:trV ((y::ts).set (i+1) x') ((g::ths).set (i+1) h')=thV (y,g)++trV (ts.set i x') (ths.set i h'):=rfl;have b:(thV (y,g)).length=3:=rfl;rw[e1,a,zFL _ _ O,b,show 3*(i+1)+d-3=3*i+d by omega];rw[Wcn (by simpa using h1) (by simpa using h2) hd e]
def ArH (y:Option Lay)(a:Option AR):Hp->Rg->Prop:=λσ F=>match y,a with
 | some Y,some A=>AHY σ F Y A (traT A Y)
 | _,_=>True
def CaH (x:Option LayT)(h:Option Th)(tb:List Cls)(bud:Nat):Hp->Rg->Prop:=λσ F=>match x,h with
 | some x,some h=>CaY σ F x.c tb bud h.ls
 | _,_=>True
def HnH (x:Option LayT)(h:Option Th):Hp->Rg->Prop:=λσ F=>match x,h with
 | some x,some h=>BtR x.h h.hands σ F
 | _,_=>True
def CH (H:Hw)(L:LayH):LbH->Hp->Rg->Prop
 | .hd=>BlkR L.p (hdH L H.cf)
 | .tab=>SlR L.tab 3 (tabV H.tb)
 | .sp=>λσ F=>SpH3 σ F L.hs H.sp
 | .arow=>SlR L.arow 1 (ptrV (L.ys.map (·.p)))
 | .trow=>RowR L.trow 3 (trV L.ts H.ths)
 | .live=>MapR L.lm .i64 (.ag 4) H.live
 | .ar k=>ArH L.ys[k]? H.ars[k]?
 | .ca t=>CaH L.ts[t]? H.ths[t]? H.tb H.cf.budget
 | .hn t=>HnH L.ts[t]? H.ths[t]?
theorem ArH.loc (y:Option Lay)(a:Option AR):Lcl (ArH y a):=by
 intro σ σ' F G h hz hs;unfold ArH at *;split at h
 ·exact AHY.loc _ _ _ _ h hz hs
 ·trivial
theorem CaH.loc (x:Option LayT)(h:Option Th)(tb:List Cls)(bud:Nat):Lcl (CaH x h tb bud):=by
 intro σ σ' F G h hz hs;unfold CaH at *;split at h
 ·exact CaY.loc _ _ _ _ h hz hs
 ·trivial
theorem HnH.loc (x:Option LayT)(h:Option Th):Lcl (HnH x h):=by
 intro σ σ' F G h hz hs;unfold HnH at *;split at h
 ·exact BtR.loc _ _ _ _ _ _ h hz hs
 ·trivial
theorem CH.loc {H:Hw}{L:LayH}:∀i,Lcl (CH H L i)
 | .hd=>BlkR.loc _ _
 | .tab=>SlR.loc _ _ _
 | .sp=>SpH3.loc
 | .arow=>SlR.loc _ _ _
 | .trow=>RowR.loc _ _ _
 | .live=>MapR.loc _ _ _ _
 | .ar k=>ArH.loc _ _
 | .ca t=>CaH.loc _ _ _ _
 | .hn t=>HnH.loc _ _
structure HS (L:LayH) (H:Hw):Prop where
 ys:L.ys.length=H.ars.length
 hs:∀Y∈L.ys,Y.hs=L.hs
 ts:L.ts.length=H.ths.length
 a1:1<=H.ars.length
 a2:H.ars.length<=4
 t1:1<=H.ths.length
 t2:H.ths.length<=4
 tb:∀A∈H.ars,A.tb=H.tb
structure HH (σ:Hp) (F:Rg) (L:LayH) (H:Hw):Prop where
 s:HS L H
 sep:Sep (CH H L) σ F
 g:Gl σ
 gd:Gd σ
 o:Off F
 o2:¬F 1
variable {σ:Hp}{F:Rg}{L:LayH}{H:Hw}{t k:Nat}
theorem HH.keep0 (h:HH σ F L H){σ':Hp}(e:Ext0 σ σ'):HH σ' F L H:=⟨h.s,(Sep.loc CH.loc).keep0 h.sep e,h.g.keep0 e,h.gd.keep0 e,h.o,h.o2⟩
theorem HH.keep (h:HH σ F L H){σ':Hp}{T:Rg}(e:Ext T σ σ')(hT:∀b,b<σ.size->F b->¬T b)(hg:Off T)(hg2:¬T 1):HH σ' F L H:=⟨h.s,(Sep.loc CH.loc).keep h.sep e hT,h.g.keep e hg,h.gd.keep e hg2,h.o,h.o2⟩
theorem Wib {σ:Hp}(g:Gd σ):1<σ.size:=g.lt
theorem HH.mono (h:HH σ F L H){G:Rg}(hs:∀b,b<σ.size->F b->G b)(o:Off G)(o2:¬G 1):HH σ G L H:=⟨h.s,(Sep.loc CH.loc).mono h.sep hs,h.g,h.gd,o,o2⟩
theorem HH.oG (h:HH σ F L H):Off (Grow F σ):=h.o.grow h.g
theorem HH.oG2 (h:HH σ F L H):¬Grow F σ 1:=λa=>by
 rcases a with a|a
 ·exact h.o2 a
 ·have:=Wib h.gd;omega
theorem HH.sub (h:HH σ F L H){G:Rg}(hs:∀b,b<σ.size->F b->G b)(hg:∀b,G b->F b\/σ.size<=b):HH σ G L H:=
 h.mono hs (h.oG.sub hg) λa=>h.oG2 (hg _ a)
theorem HH.keepN {v v':Hp}{G T:Rg}{L0:LayH}{H0:Hw}(h0:HH σ F L0 H0)(h:HH v G L H)(e:Ext T v v')(hT:∀b,T b->σ.size<=b)(hG:∀b,b<v.size->G b->¬T b):HH v' G L H:=
 h.keep e hG (h0.oG.sub λb a=>.inr (hT b a)) λa=>h0.oG2 (.inr (hT _ a))
theorem HH.grown {σ':Hp}{R:Rg}{L':LayH}{H':Hw}(h:HH σ F L H)(h':HH σ' R L' H')(hr:∀b,b<σ'.size->R b->Grow F σ b):HH σ' (Grow F σ) L' H':=h'.mono hr h.oG h.oG2
theorem HH.cut (h:HH σ F L H):HH σ (Cut F σ) L H:=h.sub (λb a d=>⟨d,a⟩) λb a=>.inl a.1
theorem HH.step1 (h:HH σ F L H)(i:LbH):∃G:Rg,(∀b,G b->F b)/\CH H L i σ G/\(∀j,j≠i->∃D:Rg,(∀b,D b->F b)/\(∀b,D b->¬G b)/\CH H L j σ D) ∧
 ∀(σ':Hp) (H':Hw) (L':LayH) (G':Rg),HS L' H'->(∀j,j≠i->CH H' L' j=CH H L j)->Ext G σ σ'->(∀b,G' b->Grow G σ b)->CH H' L' i σ' G' →
  Ext F σ σ'/\HH σ' (λb=>F b/\b<σ.size/\¬G b\/G' b) L' H':=by
 obtain⟨G,p,u,hd,m⟩:=h.sep.stepD CH.loc i;refine⟨G,p,u,hd,λσ' H' L' G' y w e s x=>?_⟩;have r:=e.sub p;have d:∀b,(F b/\b<σ.size/\¬G b\/G' b)->Grow F σ b:=λb a=>by
  rcases a with a|a
  ·exact .inl a.1
  ·exact(s b a).imp (p b) id
 refine⟨r,y,m σ' (CH H' L') G' w e s x (CH.loc _),h.g.keep r h.o,h.gd.keep r h.o2,λb a=>(h.o.grow h.g) b (d b a),λa=>?_⟩;rcases d _ a with h1|h1
 ·exact h.o2 h1
 ·have:=Wib h.gd;omega
theorem _root_.Go.Vc.Sep.step2D {L:Type}{C:L->Hp->Rg->Prop}{σ:Hp}{F:Rg}(hC:∀i,Lcl (C i))(h:Sep C σ F)(i j:L)(hij:i≠j)(N:Rg)(hN:∀b,b<σ.size->F b->¬N b):∃G D:Rg,(∀b,G b->F b)/\(∀b,D b->F b)/\(∀b,G b->¬D b)/\C i σ G/\C j σ D/\(∀m,m≠i->m≠j->∃E:Rg,(∀b,E b->F b)/\(∀b,E b->¬(G b\/D b))/\C m σ E) ∧
 ∀(σ':Hp) (C':L->Hp->Rg->Prop) (G' D':Rg),(∀k,k≠i->k≠j->C' k=C k)->Ext (λb=>G b\/D b) σ σ'->(∀b,G' b->(G b\/D b)\/N b)->(∀b,D' b->(G b\/D b)\/N b)->(∀b,G' b->¬D' b)->C' i σ' G'->C' j σ' D'->(∀k,Lcl (C' k)) →
 Sep C' σ' λb=>F b/\b<σ.size/\¬(G b\/D b)\/G' b\/D' b:=by
 obtain⟨ρ,h⟩:=h
 let G:Rg:=λb=>F b/\ρ b=i
 let D:Rg:=λb=>F b/\ρ b=j
 refine⟨G,D,λb a=>a.1,λb a=>a.1,λb x u=>hij (x.2.symm.trans u.2),h i,h j,λm x u=>⟨λb=>F b/\ρ b=m,λb a=>a.1,λb a d=>d.elim (λw=>x (a.2.symm.trans w.2)) λw=>u (a.2.symm.trans w.2),h m⟩,λσ' C' G' D' A e z B hd H J y=>?_⟩
 open Classical in
 refine⟨λb=>if G' b then i else if D' b then j else ρ b,λk=>?_⟩
 by_cases hki:k=i
 ·subst hki;exact(y _).mono H λb _ a=>⟨.inr (.inl a),zB a⟩
 by_cases hkj:k=j
 ·subst hkj;exact(y _).mono J λb _ a=>⟨.inr (.inr a),by show(if G' b then i else if D' b then k else ρ b)=k;rw[zA λd=>hd b d a,zB a]⟩
 ·rw[A k hki hkj];refine hC k _ _ _ _ (h k) e.1 λb a g=>?_;have s:¬(G b\/D b):=by
   rintro(d|d)
   ·exact hki (g.2.symm.trans d.2)
   ·exact hkj (g.2.symm.trans d.2)
  have p:¬G' b:=λd=>(z b d).elim s (hN b a g.1);have r:¬D' b:=λd=>(B b d).elim s (hN b a g.1);exact⟨⟨.inl ⟨g.1,a,s⟩,by show(if G' b then i else if D' b then j else ρ b)=k;rw[zA p,zA r];exact g.2⟩,e.2 b a s⟩
theorem HH.step2N (h:HH σ F L H)(i j:LbH)(hij:i≠j)(N:Rg)(hN:∀b,b<σ.size->F b->¬N b)(oN:Off N)(oN2:¬N 1):∃G D:Rg,(∀b,G b->F b)/\(∀b,D b->F b)/\(∀b,G b->¬D b)/\CH H L i σ G/\CH H L j σ D/\(∀m,m≠i->m≠j->∃E:Rg,(∀b,E b->F b)/\(∀b,E b->¬(G b\/D b))/\CH H L m σ E) ∧
 ∀(σ':Hp) (H':Hw) (L':LayH) (G' D':Rg),HS L' H'->(∀m,m≠i->m≠j->CH H' L' m=CH H L m)->Ext (λb=>G b\/D b) σ σ'->(∀b,G' b->(G b\/D b)\/N b)->(∀b,D' b->(G b\/D b)\/N b)->(∀b,G' b->¬D' b)->CH H' L' i σ' G'->CH H' L' j σ' D' →
  Ext F σ σ'/\HH σ' (λb=>F b/\b<σ.size/\¬(G b\/D b)\/G' b\/D' b) L' H':=by
 obtain⟨G,D,s,u,hd,M,P,r,p⟩:=h.sep.step2D CH.loc i j hij N hN;refine⟨G,D,s,u,hd,M,P,r,λσ' H' L' G' D' J K e z A w C B=>?_⟩;have y:Ext F σ σ':=e.sub λb a=>a.elim (s b) (u b);have d:∀b,(F b/\b<σ.size/\¬(G b\/D b)\/G' b\/D' b)->F b\/N b:=λb a=>by
  rcases a with a|a|a
  ·exact .inl a.1
  ·exact(z b a).imp (λx=>x.elim (s b) (u b)) id
  ·exact(A b a).imp (λx=>x.elim (s b) (u b)) id
 refine⟨y,J,p σ' (CH H' L') G' D' K e z A w C B CH.loc,h.g.keep y h.o,h.gd.keep y h.o2,λb a=>(d b a).elim (h.o b) (oN b),λa=>?_⟩;exact(d _ a).elim h.o2 oN2
theorem HH.newN (h:HH σ F L H):Off (λb=>σ.size<=b)/\¬(σ.size<=1):=⟨h.oG.sub λb a=>.inr a,λa=>h.oG2 (.inr a)⟩
theorem HH.step2 (h:HH σ F L H)(i j:LbH)(hij:i≠j):∃G D:Rg,(∀b,G b->F b)/\(∀b,D b->F b)/\(∀b,G b->¬D b)/\CH H L i σ G/\CH H L j σ D/\(∀m,m≠i->m≠j->∃E:Rg,(∀b,E b->F b)/\(∀b,E b->¬(G b\/D b))/\CH H L m σ E) ∧
 ∀(σ':Hp) (H':Hw) (L':LayH) (G' D':Rg),HS L' H'->(∀m,m≠i->m≠j->CH H' L' m=CH H L m)->Ext (λb=>G b\/D b) σ σ'->(∀b,G' b->(G b\/D b)\/σ.size<=b)->(∀b,D' b->(G b\/D b)\/σ.size<=b)->(∀b,G' b->¬D' b)->CH H' L' i σ' G'->CH H' L' j σ' D' →
  Ext F σ σ'/\HH σ' (λb=>F b/\b<σ.size/\¬(G b\/D b)\/G' b\/D' b) L' H':=
 h.step2N i j hij _ (λb a _=>O) h.newN.1 h.newN.2
theorem HH.hd (h:HH σ F L H):Blk σ L.p (hdH L H.cf):=by obtain⟨G,b,a⟩:=h.sep.get .hd;exact a.2
theorem HH.tabS (h:HH σ F L H):SlR L.tab 3 (tabV H.tb) σ F:=by
 obtain⟨G,d,a⟩:=h.sep.get .tab;exact aH.mono a λb _ a=>d b a
theorem HH.tabL (h:HH σ F L H):L.tab.len=H.tb.length:=by
 have:=h.tabS.1;rw[KA]at this;omega
theorem HH.arowS (h:HH σ F L H):SlR L.arow 1 (ptrV (L.ys.map (·.p))) σ F:=by
 obtain⟨G,d,a⟩:=h.sep.get .arow;exact aH.mono a λb _ a=>d b a
theorem HH.arowL (h:HH σ F L H):L.arow.len=H.ars.length:=by
 have:=h.arowS.1;have:=h.s.ys;simp[ptrV]at *;omega
theorem HH.trowS (h:HH σ F L H):SlR L.trow 3 (trV L.ts H.ths) σ F:=by
 obtain⟨G,d,a⟩:=h.sep.get .trow;exact aH.mono (RowR.slR a) λb _ a=>d b a
theorem HH.trowL (h:HH σ F L H):L.trow.len=H.ths.length:=by
 have:=h.trowS.1;rw[Gq h.s.ts]at this;omega
theorem HH.liveM (h:HH σ F L H):MapL σ L.lm .i64 (.ag 4) H.live:=by obtain⟨G,b,a⟩:=h.sep.get .live;exact a.2
theorem HH.spS (h:HH σ F L H):SpH3 σ F L.hs H.sp:=by
 obtain⟨G,d,a⟩:=h.sep.get .sp;exact Lcl.mono SpH3.loc a λb _ a=>d b a
theorem HH.ar (h:HH σ F L H){A:AR}(hk:H.ars[k]?=some A):∃Y,L.ys[k]?=some Y/\Y.hs=L.hs/\AHY σ F Y A (traT A Y):=by
 have g:=(gSi.1 hk).1;have d:L.ys[k]?=some (L.ys[k]'(by rw[h.s.ys];exact g)):=gGe _;obtain⟨G,e,a⟩:=h.sep.get (.ar k);simp only[CH,hk,d,ArH]at a;exact⟨_,d,h.s.hs _ (zE d),a.mono λb _ a=>e b a⟩
theorem HH.rA (h:HH σ F L H){Y:Lay}(hy:L.ys[k]?=some Y){K:Option Addr->Prop}(hK:K (some ⟨Y.p,0,none⟩)):Ix L.arow.a L.arow.len (k:Int) 1 λa=>LdP a σ K:=
 Wjp h.arowS (by simp[hy]) hK
theorem HH.th (h:HH σ F L H)(ht:t<H.ths.length):∃x g,L.ts[t]?=some x/\H.ths[t]?=some g:=⟨L.ts[t]'(by rw[h.s.ts];exact ht),H.ths[t],gGe _,gGe _⟩
theorem Ur {s:Sl}{ts:List LayT}{ths:List Th}(h:SlR s 3 (trV ts ths) σ F){x:LayT}{g:Th}(hx:ts[t]?=some x)(hg:ths[t]?=some g){d:Nat}(hd:d<3){v:Value}(hv:(thV (x,g))[d]?=some v):∃b o,s.a=some ⟨b,o,none⟩/\cell σ ⟨b,o+(3*t+d),none⟩=some v:=
 h.cell ((Wd8 hx hg hd).trans hv)
theorem Wmr {s:Sl}{ts:List LayT}{ths:List Th}(hs:SlR s 3 (trV ts ths) σ F)(hl:ts.length=ths.length){x:LayT}{g:Th}(hx:ts[t]?=some x)(hg:ths[t]?=some g){d:Nat}(hd:d<3){v:Value}(hv:(thV (x,g))[d]?=some v){K:Addr->Prop}
 (hK:∀b o,s.a=some ⟨b,o,none⟩->cell σ (Addr.add ⟨b,o+3*t,none⟩ d)=some v->K ⟨b,o+3*t,none⟩):Ix s.a s.len (t:Int) 3 K:=by
 have m:=(gSi.1 hg).1;have e:=hs.1;rw[Gq hl]at e;obtain⟨b,o,i,j⟩:=Ur hs hx hg hd hv;rw[i];refine ix O O ?_;rw[add_lit,show o+(t:Int).toNat*3=o+3*t by omega];exact hK b o i (by rw[add_lit,show o+3*t+d=o+(3*t+d) by omega];exact j)
theorem HH.tIx (h:HH σ F L H){x:LayT}{g:Th}(hx:L.ts[t]?=some x)(hg:H.ths[t]?=some g){d:Nat}(hd:d<3){v:Value}(hv:(thV (x,g))[d]?=some v){K:Addr->Prop}
 (hK:∀b o,cell σ (Addr.add ⟨b,o+3*t,none⟩ d)=some v->K ⟨b,o+3*t,none⟩):Ix L.trow.a L.trow.len (t:Int) 3 K:=
 Wmr h.trowS h.s.ts hx hg hd hv λb o _ e=>hK b o e
theorem HH.tS (h:HH σ F L H){x:LayT}{g:Th}(hx:L.ts[t]?=some x)(hg:H.ths[t]?=some g){K:Sl->Prop}(hK:K x.h):Ix L.trow.a L.trow.len (t:Int) 3 λa=>LdS (a.add 1) σ K:=
 h.tIx hx hg (d:=1) O rfl λb o e=>ldS e hK
theorem HH.tR (h:HH σ F L H){x:LayT}{g:Th}(hx:L.ts[t]?=some x)(hg:H.ths[t]?=some g){K:Value->Prop}(hK:K (phV g.ph)):Ix L.trow.a L.trow.len (t:Int) 3 λa=>LdR (a.add 2) σ K:=
 h.tIx hx hg (d:=2) O rfl λb o e=>⟨_,e,hK⟩
theorem HS.setT (h:HS L H){ths:List Th}{ts:List LayT}(e:ts.length=ths.length)(e2:ths.length=H.ths.length):HS {L with ts:=ts} {H with ths:=ths}:=⟨h.ys,h.hs,e,h.a1,h.a2,by rw[e2];exact h.t1,by rw[e2];exact h.t2,h.tb⟩
theorem HS.setA (h:HS L H){A:AR}{sp:Sp}(e:A.tb=H.tb):HS L {H.setA k A with sp:=sp}:=⟨by simp[Hw.setA,h.ys],h.hs,h.ts,by simp[Hw.setA,h.a1],by simp[Hw.setA,h.a2],h.t1,h.t2,λB a=>by
 rcases zEW a with h1|h1
 ·exact h.tb B h1
 ·subst h1;exact e⟩
theorem Wn2 {A:AR}:∀j,j≠LbH.ar k->CH (H.setA k A) L j=CH H L j:=by
 intro j hj;cases j<;>try rfl
 rename_i m;have a:m≠k:=λe=>hj (by rw[e]);simp only[CH,Hw.setA,zi (Ne.symm a)]
theorem Wn6 {sp:Sp}:∀j,j≠LbH.sp->CH {H with sp:=sp} L j=CH H L j:=by
 intro j hj;cases j<;>first|rfl|exact absurd rfl hj
theorem Wnn {l:List (Int×Bk)}:∀j,j≠LbH.live->CH {H with live:=l} L j=CH H L j:=by
 intro j hj;cases j<;>first|rfl|exact absurd rfl hj
theorem HH.stepA (h:HH σ F L H){A:AR}(hk:H.ars[k]?=some A):∃(Y:Lay) (G:Rg),L.ys[k]?=some Y/\Y.hs=L.hs/\(∀b,G b->F b)/\AHY σ G Y A (traT A Y)/\∀(σ':Hp) (A':AR) (G':Rg),A'.tb=A.tb->Ext G σ σ'->(∀b,G' b->Grow G σ b)->AHY σ' G' Y A' (traT A' Y) →
 Ext F σ σ'/\HH σ' (λb=>F b/\b<σ.size/\¬G b\/G' b) L (H.setA k A'):=by
 have g:=(gSi.1 hk).1;have a:L.ys[k]?=some (L.ys[k]'(by rw[h.s.ys];exact g)):=gGe _;generalize (L.ys[k]'(by rw[h.s.ys];exact g))=Y at a;obtain⟨G,m,j,_,d⟩:=h.step1 (.ar k);simp only[CH,hk,a,ArH]at j;refine⟨Y,G,a,h.s.hs _ (zE a),m,j,λσ' A' G' i e p r=>?_⟩;refine d σ' (H.setA k A') L G' (h.s.setA (sp:=H.sp) (i.trans (h.s.tb A (zE hk)))) Wn2 e p ?_;simp only[CH,Hw.setA,a,zL g,ArH];exact r
theorem HH.stepAS (h:HH σ F L H){A:AR}(hk:H.ars[k]?=some A):∃(Y:Lay) (G D:Rg),L.ys[k]?=some Y/\Y.hs=L.hs/\W2 σ G D Y A (traT A Y) H.sp/\∀(σ':Hp) (A':AR) (sp':Sp) (G' D':Rg),A'.tb=A.tb->Ext (Both G D) σ σ'->Fits σ G D G' D'->W2 σ' G' D' Y A' (traT A' Y) sp' →
 Ext F σ σ'/\HH σ' (Grow F σ) L {H.setA k A' with sp:=sp'}:=by
 have C:=(gSi.1 hk).1;have i:L.ys[k]?=some (L.ys[k]'(by rw[h.s.ys];exact C)):=gGe _;generalize (L.ys[k]'(by rw[h.s.ys];exact C))=Y at i;obtain⟨G,D,z,B,hd,M,K,_,r⟩:=h.step2 (.ar k) .sp (by intro e;cases e);simp only[CH,hk,i,ArH]at M;have K:SpH3 σ D L.hs H.sp:=K;have j:=h.s.hs _ (zE i);refine⟨Y,G,D,i,j,⟨M,by rw[j];exact K,hd,h.g,h.o.sub z,h.o.sub B⟩,λσ' A' sp' G' D' E e N y=>?_⟩;have w:∀b,G' b->(G b\/D b)\/σ.size<=b:=λb x=>(N.1 b x).imp .inl id;have u:∀b,D' b->(G b\/D b)\/σ.size<=b:=λb x=>.inl (.inr (N.2 b x));have Q:∀m,m≠LbH.ar k->m≠LbH.sp->CH {H.setA k A' with sp:=sp'} L m=CH H L m:=λm J P=>
  (Wn2 (H:={H with sp:=sp'}) (L:=L) (A:=A') m J).trans (Wn6 m P)
 have S:CH {H.setA k A' with sp:=sp'} L (.ar k) σ' G':=by
  simp only[CH,Hw.setA,i,zL C,ArH];exact y.a
 have U:CH {H.setA k A' with sp:=sp'} L .sp σ' D':=by
  show SpH3 σ' D' L.hs sp';rw[←j];exact y.s
 obtain⟨R,J⟩:=r σ' {H.setA k A' with sp:=sp'} L G' D' (h.s.setA (E.trans (h.s.tb A (zE hk)))) Q e w u y.d S U;refine⟨R,h.grown J λb x p=>?_⟩;rcases p with p|p|p
 ·exact .inl p.1
 ·exact(w b p).imp (λi=>i.elim (z b) (B b)) id
 ·exact(u b p).imp (λi=>i.elim (z b) (B b)) id
theorem HH.stepS (h:HH σ F L H):∃G:Rg,(∀b,G b->F b)/\SpH3 σ G L.hs H.sp/\Off G/\∀(σ':Hp) (sp':Sp),Ext G σ σ'->SpH3 σ' (Grow G σ) L.hs sp'->Ext F σ σ'/\HH σ' (Grow F σ) L {H with sp:=sp'}:=by
 obtain⟨G,g,m,_,a⟩:=h.step1 .sp;refine⟨G,g,m,h.o.sub g,λσ' sp' e hs=>?_⟩;obtain⟨j,p⟩:=a σ' {H with sp:=sp'} L (Grow G σ) ⟨h.s.ys,h.s.hs,h.s.ts,h.s.a1,h.s.a2,h.s.t1,h.s.t2,h.s.tb⟩ Wn6 e (λb i=>i) hs;exact⟨j,h.grown p λb i d=>by
  rcases d with d|d
  ·exact .inl d.1
  ·exact d.imp (g b) id⟩
theorem HH.stepL (h:HH σ F L H):F L.lm/\∀(σ':Hp) (l:List (Int×Bk)),QD σ σ' L.lm->MapL σ' L.lm .i64 (.ag 4) l->Ext F σ σ'/\HH σ' F L {H with live:=l}:=by
 obtain⟨G,i,a,_,d⟩:=h.step1 .live;have a:MapR L.lm .i64 (.ag 4) H.live σ G:=a;refine⟨i _ a.1,λσ' l m r=>?_⟩;obtain⟨j,p⟩:=d σ' {H with live:=l} L G ⟨h.s.ys,h.s.hs,h.s.ts,h.s.a1,h.s.a2,h.s.t1,h.s.t2,h.s.tb⟩ Wnn (m.ext.sub λb g=>by rw[g];exact a.1) (λb g=>.inl g) ⟨a.1,r⟩;exact⟨j,p.mono (λb _ e=>by
  rcases e with e|e
  ·exact e.1
  ·exact i b e) h.o h.o2⟩
theorem HH.stepC (h:HH σ F L H){x:LayT}{g:Th}(hx:L.ts[t]?=some x)(hg:H.ths[t]?=some g):∃G:Rg,(∀b,G b->F b)/\CaY σ G x.c H.tb H.cf.budget g.ls/\∀(σ':Hp) (ls:List Li) (Y':LayC) (G':Rg),Y'.p=x.c.p->Ext G σ σ'->(∀b,G' b->Grow G σ b)->CaY σ' G' Y' H.tb H.cf.budget ls →
 Ext F σ σ'/\HH σ' (λb=>F b/\b<σ.size/\¬G b\/G' b) {L with ts:=L.ts.set t {x with c:=Y'}} {H with ths:=H.ths.set t {g with ls:=ls}}:=by
 have a:=(gSi.1 hx).1;have r:=(gSi.1 hg).1;obtain⟨G,A,z,_,i⟩:=h.step1 (.ca t);simp only[CH,hx,hg,CaH]at z;refine⟨G,A,z,λσ' ls Y' G' B e y E=>?_⟩;have w:trV (L.ts.set t {x with c:=Y'}) (H.ths.set t {g with ls:=ls})=trV L.ts H.ths:=by
  have C:(trV L.ts H.ths).set (3*t+0) (.pointer (some ⟨x.c.p,0,none⟩))=trV L.ts H.ths:=Qj (Wd8 hx hg O);rw[←C];exact(Wcn hx hg (d:=0) O (by simp[thV,B])).symm
 refine i σ' {H with ths:=H.ths.set t {g with ls:=ls}} {L with ts:=L.ts.set t {x with c:=Y'}} G' (h.s.setT (by simp[h.s.ts]) aA) (λj D=>?_) e y ?_
 ·cases j<;>try rfl
  ·simp only[CH,w]
  ·rename_i m;have u:m≠t:=λe=>D (by rw[e]);simp only[CH,zi (Ne.symm u)]
  ·rename_i m;by_cases u:m=t
   ·subst u;simp only[CH,zL a,zL r,hx,hg];rfl
   ·simp only[CH,zi (Ne.symm u)]
 ·simp only[CH,zL a,zL r,CaH];exact E
theorem HH.stepN (h:HH σ F L H){x:LayT}{g:Th}(hx:L.ts[t]?=some x)(hg:H.ths[t]?=some g)(N:Rg)(hN:∀b,b<σ.size->F b->¬N b)(oN:Off N)(oN2:¬N 1):∃G D:Rg,(∀b,G b->F b)/\(∀b,D b->F b)/\(∀b,G b->¬D b)/\BtR x.h g.hands σ G/\RowR L.trow 3 (trV L.ts H.ths) σ D/\(∃E:Rg,(∀b,E b->¬G b)/\(∀b,E b->¬D b)/\BlkR L.p (hdH L H.cf) σ E) ∧
 ∀(σ':Hp) (s:Sl) (bs:List Bt) (G' D':Rg),Ext (λb=>G b\/D b) σ σ'->(∀b,G' b->(G b\/D b)\/N b)->(∀b,D' b->(G b\/D b)\/N b)->(∀b,G' b->¬D' b)->BtR s bs σ' G'->RowR L.trow 3 ((trV L.ts H.ths).set (3*t+1) (.slice s.a s.len s.cap)) σ' D' →
  Ext F σ σ'/\HH σ' (λb=>F b/\b<σ.size/\¬(G b\/D b)\/G' b\/D' b) {L with ts:=L.ts.set t {x with h:=s}} {H with ths:=H.ths.set t {g with hands:=bs}}:=by
 have i:=(gSi.1 hx).1;have u:=(gSi.1 hg).1;obtain⟨G,D,Q,S,hd,M,K,r,j⟩:=h.step2N (.hn t) .trow (by intro e;cases e) N hN oN oN2;simp only[CH,hx,hg,HnH]at M;have K:RowR L.trow 3 (trV L.ts H.ths) σ D:=K;obtain⟨E,_,P,C⟩:=r .hd (by intro e;cases e) (by intro e;cases e);refine⟨G,D,Q,S,hd,M,K,⟨E,λb J hx=>P b J (.inl hx),λb J hx=>P b J (.inr hx),C⟩,λσ' s bs G' D' e A B y W U=>?_⟩;have z:trV (L.ts.set t {x with h:=s}) (H.ths.set t {g with hands:=bs})=(trV L.ts H.ths).set (3*t+1) (.slice s.a s.len s.cap):=(Wcn hx hg (d:=1) O (by simp[thV])).symm;refine j σ' {H with ths:=H.ths.set t {g with hands:=bs}} {L with ts:=L.ts.set t {x with h:=s}} G' D' (h.s.setT (by simp[h.s.ts]) aA) (λm V R=>?_) e A B y ?_ ?_
 ·cases m<;>first|rfl|exact absurd rfl R|skip
  ·rename_i m;by_cases w:m=t
   ·subst w;simp only[CH,zL i,zL u,hx,hg];rfl
   ·simp only[CH,zi (Ne.symm w)]
  ·rename_i m;have w:m≠t:=λe=>V (by rw[e]);simp only[CH,zi (Ne.symm w)]
 ·simp only[CH,zL i,zL u,HnH];exact W
 ·simp only[CH,z];exact U
theorem HH.stepP (h:HH σ F L H){x:LayT}{g:Th}(hx:L.ts[t]?=some x)(hg:H.ths[t]?=some g)(p:Option Ph){K:aP}(hK:∀σ',Ext F σ σ'->HH σ' F L {H with ths:=H.ths.set t {g with ph:=p}}->K σ') :
 Ix L.trow.a L.trow.len (t:Int) 3 λa=>And (IsIf (phV p)) (St1 (a.add 2) (phV p) σ K):=by
 have D:=(gSi.1 hx).1;have r:=(gSi.1 hg).1;have A:=h.trowL;obtain⟨G,B,w,_,i⟩:=h.step1 .trow;have w:RowR L.trow 3 (trV L.ts H.ths) σ G:=w;have C:=Gq h.s.ts;obtain⟨b,y⟩:∃b,L.trow.a=some ⟨b,0,none⟩:=by
  rcases w.2 with⟨h0,_⟩|⟨b,_,_,ha,_⟩
  ·omega
  ·exact⟨b,ha⟩
 rw[y];refine ix O O ⟨Wdt p,?_⟩;refine w.st (j:=3*t+2) O (λP u=>by rw[y]at u;cases u;rw[add_lit,add_lit];congr 1;omega) λσ' e J=>?_;have z:trV L.ts (H.ths.set t {g with ph:=p})=(trV L.ts H.ths).set (3*t+2) (phV p):=by
  have:=Wcn hx hg (d:=2) (v:=phV p) (x':=x) (h':={g with ph:=p}) O (by simp[thV]);rw[this,Qj hx]
 obtain⟨M,E⟩:=i σ' {H with ths:=H.ths.set t {g with ph:=p}} L G (h.s.setT (ts:=L.ts) (by simp[h.s.ts]) aA) (λj N=>by
  cases j<;>first|rfl|exact absurd rfl N|skip
  ·rename_i m;by_cases hm:t=m
   ·subst hm;simp only[CH,zL r,hx,hg];rfl
   ·simp only[CH,zi hm]
  ·rename_i m;by_cases hm:t=m
   ·subst hm;simp only[CH,zL r,hx,hg];rfl
   ·simp only[CH,zi hm]) e (λb y=>.inl y) (by simp only[CH,z];exact J)
 exact hK σ' M (E.mono (λb _ hx=>by
  rcases hx with hx|hx
  ·exact hx.1
  ·exact B b hx) h.o h.o2)
end Go.Ar
namespace Go.Ar
open Go Go.Vc Go.Proofs
open Go.Bu (Zf QL Zu cnt)
variable {σ:Hp}{F H:Rg}{p hs:Nat}{A:AR}{sp:Sp}{Y:Lay}{T:Nat->Hp->Rg->Prop}
theorem Wiq {s:Sl}{tb:List Cls}(h:SlR s 3 (tabV tb) σ F)(hl:tb.length<=40){R:Sl->Hp->Prop}(hR:∀s' σ',Ext0 σ σ'->SlR s' 3 (tabV tb) σ' (λb=>σ.size<=b)->R s' σ'):Wc.c s σ R:=by
 refine Wc.o ?_;unfold Wc.v;have a:=h.1;rw[KA]at a;exact Wai h aB rfl Wfr aB O λs' σ' _ e d=>hR s' σ' e d.slR
end Go.Ar
namespace Go.Ar
open Go Go.Vc Go.Proofs
variable {σ:Hp}{F:Rg}{L:LayH}{H:Hw}{t k:Nat}
theorem KB (h:HH σ F L H){R:aO}(hR:R true σ):WP.c (aW L.p) σ R:=by
 refine WP.o ?_;unfold WP.v;have a:=h.trowL;have b:=h.s.t1;refine JnB.intro (ifT rfl (nilP (h.hd.rS rfl ?_)));rw[zW aC];exact hR
theorem Wdq (h:HH σ F L H)(x:Int){R:aO}(hR:R (decide (0<=x/\x<(H.ths.length:Int))) σ):YX.c (aW L.p) x σ R:=by
 refine YX.o ?_;unfold YX.v;have a:=h.trowL;refine JnB.intro (ifD (λb=>nilP (h.hd.rS rfl ?_)) λb=>?_)
 ·have:decide (x<((L.trow.len:Nat):Int))=decide (0<=x/\x<(H.ths.length:Int)):=by rw[decide_eq_decide,a];omega
  simp only[this];exact hR
 ·rw[zd O]at hR;exact hR
theorem WjJ (h:HH σ F L H)(t:Nat){R:aN}(hR:R ((H.own t:Nat):Int) σ):ZE.c (aW L.p) (t:Int) σ R:=by
 refine ZE.o ?_;unfold ZE.v;have a:=h.arowL;have b:=h.s.a1;refine nilP (h.hd.rS rfl (nz aC ?_));have:((t:Int).tmod ((L.arow.len:Nat):Int))=((H.own t:Nat):Int):=by rw[Q7 O,a];unfold Hw.own;omega
 simp only[this];exact hR
theorem Wa9 (h:HH σ F L H)(x:Int)(hx9:x<=9223372036854775807){R:aN}(hR:∀σ',Ext0 σ σ'->R (YJ H.ars x) σ'):Yd.c (aW L.p) x σ R:=by
 refine Yd.o ?_;unfold Yd.v;refine nw (cs:=[.int .i64 x]) λv hz e Q=>Q.rI0 rfl ?_;have P:=h.keep0 e;by_cases hx:x<0
 ·have:=hR v e;unfold YJ at this;rw[zB hx]at this;exact ifDT hx this
 refine ifDF hx (nilP (P.hd.rS rfl ?_));have hl:=h.arowL;have V:=h.s.a2;refine Wk.o ?_;unfold Wk.v;refine ZS (a:=bN) (λ(z:Int) w=>∃i:Nat,z=(i:Int)/\i<=H.ars.length/\Ext0 σ w/\HH w F L H/\Blk w σ.size [.int .i64 x]/\∀j A,j<i->H.ars[j]?=some A->UN A (x/256)=false) (λz _=>H.ars.length-z.toNat) ⟨0,rfl,O,e,P,Q,λj A g=>O⟩ ?_;rintro z w ⟨i,rfl,Z,G,K,u,b⟩;refine ifD (λJ=>?_) λM=>?_
 ·simp only at J;have y:i<H.ars.length:=by omega
  have d:H.ars[i]?=some H.ars[i]:=gGe y;generalize H.ars[i]=A at d;obtain⟨Y,U,S,N⟩:=K.ar d;refine K.rA U (Gr (all := #[.pointer (some ⟨Y.p,0,none⟩),.pointer (some ⟨σ.size,0,none⟩)]) (by kernel_rfl) aA ?_);refine Zg.o ?_;unfold Zg.v;refine u.rI0 rfl (nz aB (ar (by rw[YM O];omega) (by rw[YM O];omega) ?_));rw[YM O];refine WmO N (x/256) (iff_ (λX=>?_) λW=>?_)
  ·have:YJ H.ars x=(i:Int):=by
    unfold YJ;rw[zA hx];have:H.ars.findIdx? (λA=>UN A (x/256))=some i:=by
     obtain⟨C,rfl⟩:=gSi.1 d;exact zBQ.2 ⟨C,X,λj g=>by rw[b j _ g (gGe O)];simp⟩
    rw[this]
   have r:=hR w G;rw[this]at r;exact r
  ·exact arN (m:=i+1) O O ⟨⟨i+1,rfl,O,G,K,u,λj B g E=>by
    by_cases e:j=i
    ·subst e;rw[d]at E;cases E;exact W
    ·exact b j B O E⟩,O⟩
 ·have D:i=H.ars.length:=by simp only at M;omega
  subst D;have:YJ H.ars x = -1:=by
   unfold YJ;rw[zA hx];have:H.ars.findIdx? (λA=>UN A (x/256))=none:=by
    rw[zDT];intro A d;obtain⟨j,g⟩:=zN d;exact b j A (gSi.1 g).1 g
   rw[this]
  have r:=hR w G;rw[this]at r;exact r
theorem Wgz (h:HH σ F L H){R:Int->Int->Int->Int->Int->Hp->Prop}(hR:∀σ',Ext0 σ σ'->R (H.cf.pages:Int) (H.cf.arenas:Int) (H.cf.threads:Int) (H.cf.budget:Int) (H.cf.room:Int) σ'):Y5.c (aW L.p) σ R:=by
 refine Y5.o ?_;unfold Y5.v;refine nw (cs:=[.int .i64 0,.int .i64 0,.int .i64 0,.int .i64 0,.int .i64 0]) λv w e m=>KB (h.keep0 e) (ifF rfl ?_);have hd:=(h.keep0 e).hd;refine nilP (hd.rI2 rfl (hd.rI2 rfl (hd.rI2 rfl (hd.rI2 rfl (hd.rI2 rfl ?_)))));refine m.s1 aA λs o1 g=>g.s1 aA λr o2 b=>b.s1 aA λv3 o3 d=>d.s1 aA λu o4 j=>j.s1 aA λi o5 a=>?_;refine a.rI rfl (a.rI rfl (a.rI rfl (a.rI rfl (a.rI rfl (hR i ?_)))));exact((((e.only o1 (.inr (zD _))).only o2 (.inr (zD _))).only o3 (.inr (zD _))).only o4 (.inr (zD _))).only o5 (.inr (zD _))
theorem Wdd (h:HH σ F L H)(hl:H.tb.length<=40){R:Sl->Hp->Prop}(hR:∀s σ',Ext0 σ σ'->SlR s 3 (tabV H.tb) σ' (λb=>σ.size<=b)->R s σ'):YT.c (aW L.p) σ R:=by
 refine YT.o ?_;unfold YT.v;exact KB h (ifF rfl (nilP (h.hd.rS rfl (Wiq h.tabS hl hR))))
theorem WhI (h:HH σ F L H){R:Option Addr->Hp->Prop}(hR:R (some ⟨L.hs,0,none⟩) σ):Zr.c (aW L.p) σ R:=by
 refine Zr.o ?_;unfold Zr.v;exact KB h (ifF rfl (nilP (h.hd.rP rfl hR)))
theorem Wjg (h:HH σ F L H)(gc:Gc σ)(x v:Int)(hx:x<=9223372036854775807){R:aN}(hR:∀σ',Ext F σ σ'->HH σ' (Grow F σ) L {H with sp:=US H.sp x v}->R (accE H.sp x) σ'):Zl.c (aW L.p) x v σ R:=by
 refine Zl.o ?_;unfold Zl.v;obtain⟨G,r,m,d,a⟩:=h.stepS;refine WhI h (WjQ m h.g gc x hx v λσ' e b=>?_);obtain⟨i,j⟩:=a σ' _ e b;exact hR σ' i j
theorem V0 (h:HH σ F L H)(ht:t<H.ths.length){R:Value->Hp->Prop}(hR:R (phV (retH H t)) σ):W4.c (aW L.p) (t:Int) σ R:=by
 refine W4.o ?_;unfold W4.v;obtain⟨x,g,d,a⟩:=h.th ht;refine nilP (h.hd.rS rfl (h.tS d a ?_));obtain⟨G,i,b⟩:=h.sep.get (.hn t);simp only[CH,d,a,HnH]at b;have e:=b.len;unfold retH at hR;rw[a]at hR;simp only at hR;by_cases h0:g.hands=[]
 ·rw[zB h0]at hR;exact ifT (by rw[e,h0];rfl) hR
 ·rw[zA h0]at hR;have:=zCG.2 h0;exact ifF (by simp only[zBC];omega) hR
theorem Wcv (h:HH σ F L H)(x size cls:Int)(hx9:x<=9223372036854775807){R:Value->Int->Int->Hp->Prop}(hR:∀σ',Ext F σ σ'->HH σ' F L (VF H x size cls)->R .nilIface x 0 σ'):Zc.c (aW L.p) x size cls σ R:=by
 refine Zc.o ?_;unfold Zc.v;refine nw (cs:=[.int .i64 0,.int .i64 0]) λv K e a=>?_;have s:=h.cut.keep0 e;refine⟨λu=>Ext0 v u,Ext.refl _ _,nilP ⟨some L.lm,λu E=>by rw[add_lit,((s.keep0 E).hd).cell];rfl,?_⟩⟩;refine Wa9 s x hx9 λJ g=>⟨g,?_⟩;have w:=s.keep0 g;obtain⟨B,d⟩:=w.stepL;refine⟨L.lm,_,rfl,w.liveM,λr o2 j=>?_⟩;obtain⟨z,A⟩:=d r _ o2 j;have m:Blk r σ.size [.int .i64 0,.int .i64 0]:=Ws o2 (g.blk a id) (by have:=B.2;omega);refine m.s1 aA λv3 o3 C=>C.s1 aA λv4 o4 y=>y.rI rfl (y.rI rfl (hR v4 ?_ ?_))
 ·exact(((Ext0.to (e.trans g)).trans (z.sub λb a=>a.1)).only o3 (.inr (zD _))).only o4 (.inr (zD _))
 ·have i:Ext (· = σ.size) r v4:=o3.ext.trans o4.ext;have D:=h.keepN A i (λb a=>O) (λb _ a G=>by have:=a.2;omega);exact D.mono (λb _ a=>a.1) h.o h.o2
theorem G4 (h:HH σ F L H)(ht:t<H.ths.length)(k:Nat){s:Sl}{xs:List Int}{X:Rg}(hs:SlR s 1 (Wv xs) σ X)(hc:s.len<=s.cap)(hxs:xs≠[])(hX:∀b,b<σ.size->X b->¬F b)(oX:Off X)(oX2:¬X 1)(hlen:∀g,H.ths[t]?=some g->g.hands.length<=1000){R:aP}
 (hR:∀σ' ts',Ext F σ σ'->HH σ' (λb=>Grow F σ b\/X b) {L with ts:=ts'} (QV H t k xs)->R σ'):YF.c (aW L.p) (t:Int) (k:Int) s σ R:=by
 refine YF.o ?_;unfold YF.v;obtain⟨x,g,r,Y⟩:=h.th ht;have htl:=Gq h.s.ts;have hrl:=h.trowL;have hlen:=hlen g Y;obtain⟨G,D,hG,P,hd,hB,hr,⟨E,hE1,hE2,hhd⟩,ac⟩:=h.cut.stepN r Y (λb=>σ.size<=b\/b<σ.size/\X b) (λb m hf hn=>by
  rcases hn with hn|hn
  ·omega
  ·exact hX b m hn.2 hf.1) (λb m=>m.elim (h.newN.1 b) λm=>oX b m.2) (λm=>m.elim h.newN.2 λm=>oX2 m.2)
 obtain⟨W,Dn,A,M,C,hj,U⟩:=hB;have B:∀u,Ext G σ u->Blk u L.p (hdH L H.cf):=λu z=>((BlkR.loc _ _).keep hhd z λb _ m r=>hE1 b m r).2;have ab:∀u,Ext G σ u->RowR L.trow 3 (trV L.ts H.ths) u D:=λu z=>aI.keep hr z λb _ m r=>hd b r m;refine⟨λu=>Ext G σ u,Ext.refl _ _,nilP ⟨L.trow,λu z=>by rw[add_lit,(B u z).cell];rfl,nilP ⟨L.trow,λu z=>by rw[add_lit,(B u z).cell];rfl,?_⟩⟩⟩;refine Wmr (RowR.slR hr) h.s.ts r Y (d:=1) O rfl λb o ha _=>⟨x.h,λu z=>?_,?_⟩
 ·obtain⟨b',o',aa,hc'⟩:=Ur (RowR.slR (ab u z)) r Y (d:=1) O rfl;rw[ha]at aa;cases aa;rw[add_lit,show o+3*t+1=o+(3*t+1) by omega];exact hc'
 refine nw (cs:=[.int .i64 (k:Int),.slice s.a s.len s.cap]) λv hz e m=>⟨Ext0.to e,?_⟩;have J:=(RowO.loc _ _ _).keep0 ((RowO.loc _ _ _).cut A) e;have Q:=(BtO.loc _ _).keep0 ((BtO.loc _ _).cut M) e;have hs1:=aH.keep0 (aH.cut hs) e;have hpl:x.h.len=W.length:=by have:=A.1;rw[KC]at this;omega
 have hpg:W.length=g.hands.length:=M.1;refine J.app (ys:=btV (k,s)) rfl rfl ?_ (λv hv=>Hm (l:=[(k,s)]) v (by simpa[btsV]using hv)) ?_ ?_ zBG λs' v2 hl2 e2 hr2=>?_
 ·intro j u z;rw[add_lit,zG,m.cell];exact z
 ·simp only;have:(x.h.len+1)*32<=1001*32:=zAF O O;omega
 ·simp only;omega
 have hs2:=e2.1;have eG:Ext G σ v2:=(Ext0.to e).trans (e2.sub λb m=>m.1.1);refine⟨eG,?_⟩;obtain⟨b0,Z⟩:∃b,L.trow.a=some ⟨b,0,none⟩:=by
  rcases hr.2 with⟨h0,_⟩|⟨b,_,_,ha,_⟩
  ·omega
  ·exact⟨b,ha⟩
 rw[Z];refine ix O O ?_;refine(ab v2 eG).st (j:=3*t+1) O (λb' S=>by rw[Z]at S;cases S;rw[add_lit,add_lit];congr 1;omega) λσ' V hr3=>?_;have hs3:=V.1;have e03:Ext (λb=>G b\/D b) σ σ':=(eG.sub λb m=>.inl m).trans (V.sub λb m=>.inr m);have hr4:=(RowO.loc _ _ _).keep ((RowO.loc _ _ _).cut hr2) V λb _ m r=>by
  rcases m.1 with h1|h1
  ·exact hd b h1.1.1 r
  ·have:=(P b r).2;omega
 have hB4:=(BtO.loc _ _).keep ((BtO.loc _ _).keep Q e2 λb _ m r=>r.1.2 m.1) V λb _ m r=>hd b (C b m.1) r;have hs4:=aH.keep (aH.keep hs1 e2 λb m r w=>hX b r.2 r.1 (hG b w.1.1).1) V λb _ r w=>hX b r.2 r.1 (P b w).1;have hBt:BtR s' (g.hands++[(k,xs)]) σ' (λb=>G b/\b<σ.size\/b<σ.size/\X b\/v.size<=b/\b<v2.size):=by
  refine⟨W++[(k,s)],λb=>Dn b/\b<σ.size\/b<σ.size/\X b,?_,⟨by simp[hpg],λi p y K w=>?_⟩,λb m=>?_,hj.snoc M U hs hxs (λb m r w=>hX b m w (hG b (C b r)).1) k,λy w=>?_⟩
  ·rw[UX];have:btsV [(k,s)]=btV (k,s):=by simp[btsV]
   rw[this];refine(RowO.loc _ _ _).mono hr4 λq _ N=>?_;rcases N.1 with h1|h1
   ·exact⟨.inl ⟨h1.1.1,h1.2⟩,λr=>by
     rcases r with r|r
     ·exact h1.1.2 r.1
     ·exact hX q r.1 r.2 (hG q h1.1.1).1⟩
   ·exact⟨.inr (.inr ⟨h1,N.2⟩),λr=>by
     rcases r with r|r<;>omega⟩
  ·rcases zAN i W.length with hi|hi
   ·rw[ze hi]at K;rw[ze O]at w;obtain⟨a1,a2,a3⟩:=hB4.2 i p y K w;exact⟨a1,aH.mono a2 λq _ N=>.inl N,a3⟩
   ·rw[zm hi]at K;rw[zm O]at w;have hi0:i-W.length=0:=by
     have:=(gSi.1 K).1;simp at this;omega
    rw[hi0]at K;rw[show i-g.hands.length=0 by omega]at w;simp at K w;subst K;subst w;exact⟨rfl,aH.mono hs4 λq _ N=>.inr ⟨N.2,N.1⟩,hc⟩
  ·rcases m with m|m
   ·exact .inl ⟨C b m.1,m.2⟩
   ·exact .inr (.inl m)
  ·rcases zR.1 w with h1|h1
   ·exact U y h1
   ·rw[zV]at h1;subst h1;exact hxs
 obtain⟨eF,h4⟩:=ac σ' s' (g.hands++[(k,xs)]) (λb=>G b/\b<σ.size\/b<σ.size/\X b\/v.size<=b/\b<v2.size) D e03 (λb m=>by
  rcases m with m|m|m
  ·exact .inl (.inl m.1)
  ·exact .inr (.inr m)
  ·exact .inr (.inl O)) (λb m=>.inl (.inr m)) (λb m r=>by
  have:=(P b r).2;rcases m with m|m|m
  ·exact hd b m.1 r
  ·exact hX b m.1 m.2 (P b r).1
  ·omega) hBt hr3
 refine hR σ' (L.ts.set t {x with h:=s'}) (eF.sub λb m=>m.1) ?_;have e5:QV H t k xs = {H with ths:=H.ths.set t {g with hands:=g.hands++[(k,xs)]}}:=by
  unfold QV Hw.setT
  congr 1
  exact KZ Y
 rw[e5];refine h4.mono (λb _ m=>?_) (λb (m:Grow F σ b\/X b)=>m.elim (h.oG b) (oX b)) λ(m:Grow F σ _\/X _)=>m.elim h.oG2 oX2;rcases m with m | (m|m|m)|m
 ·exact .inl (.inl m.1.1)
 ·exact .inl (.inl (hG b m.1).1)
 ·exact .inr m.2
 ·exact .inl (.inr O)
 ·exact .inl (.inl (P b m).1)
end Go.Ar
namespace Go.Ar
open Go Go.Vc Go.Proofs
variable {σ u u':Hp}{F B P:Rg}{L:LayH}{H H':Hw}{t k n:Nat}{A:AR}{Y:Lay}{x:LayT}{g:Th}{c:Cls}{l:Li}{cs:List Value}
structure HK (F:Rg) (σ:Hp) (B:Rg) (u:Hp) (P:Rg) (L:LayH) (H:Hw):Prop where
 h:HH u P L H
 e:Ext F σ u
 p:∀b,P b->(F b/\b<σ.size\/σ.size<=b)/\¬B b/\b<u.size
 b:∀b,B b->σ.size<=b/\b<u.size
 o:Off (λb=>σ.size<=b)/\¬σ.size<=1
theorem HK.start (h:HH σ F L H):HK F σ (λ_=>False) σ (Cut F σ) L H:=⟨h.cut,Ext.refl _ _,λb a=>⟨.inl ⟨a.1,a.2⟩,id,a.2⟩,λb a=>a.elim,h.newN⟩
theorem HK.box (K:HK F σ B u P L H)(e:Ext0 u u')(hz:u'.size=u.size+1):HK F σ (λb=>B b\/b=u.size) u' P L H:=
 ⟨K.h.keep0 e,K.e.trans (Ext0.to e),λb a=>⟨(K.p b a).1,λd=>d.elim (K.p b a).2.1 λg=>by have:=(K.p b a).2.2;omega,by have:=(K.p b a).2.2;omega⟩,λb a=>by
  have:=K.e.1;rcases a with a|a
  ·have:=K.b b a;omega
  ·omega,K.o⟩
theorem HK.fr (K:HK F σ B u P L H)(e:Ext0 u u'):HK F σ B u' P L H:=
 ⟨K.h.keep0 e,K.e.trans (Ext0.to e),λb a=>⟨(K.p b a).1,(K.p b a).2.1,by have:=(K.p b a).2.2;have:=e.1;omega⟩,λb a=>by have:=K.b b a;have:=e.1;omega,K.o⟩
theorem HK.own (K:HK F σ B u P L H)(o:QD u u' n)(hn:B n):HK F σ B u' P L H:=by
 have r:=K.b n hn;have s:=o.1;have e:Ext (· = n) u u':=o.ext;have m:∀b,b<u.size->P b->¬(b=n):=λb _ a g=>(K.p b a).2.1 (g▸hn);have d:Off (λb=>b=n)/\¬(1=n):=⟨K.o.1.sub λb i=>O,λi=>K.o.2 O⟩;exact⟨K.h.keep e m d.1 d.2,K.e.newT e λb (j:b=n)=>.inr O,λb a=>⟨(K.p b a).1,(K.p b a).2.1,by have:=(K.p b a).2.2;omega⟩,λb a=>by have:=K.b b a;omega,K.o⟩
theorem HK.keepB (K:HK F σ B u P L H)(e:Ext P u u')(hb:Blk u n cs)(hn:B n):Blk u' n cs:=e.blk hb λa=>(K.p n a).2.1 hn
theorem HK.toX (K:HK F σ B u P L H){Q:Rg}{L':LayH}(e:Ext P u u')(h:HH u' Q L' H')(hq:∀b,b<u'.size->Q b->P b\/u.size<=b\/(F b/\b<σ.size\/σ.size<=b)/\¬B b):HK F σ B u' (Cut Q u') L' H':=by
 have i:=e.1;have g:=K.e.1;refine⟨h.cut,K.e.newT e λb a=>(K.p b a).1.imp (λh=>h.1) id,λb a=>⟨?_,λd=>?_,a.2⟩,λb a=>by have:=K.b b a;omega,K.o⟩
 ·rcases hq b a.2 a.1 with h1|h1|h1
  ·exact(K.p b h1).1
  ·exact .inr O
  ·exact h1.1
 ·rcases hq b a.2 a.1 with h1|h1|h1
  ·exact(K.p b h1).2.1 d
  ·have:=K.b b d;omega
  ·exact h1.2 d
theorem HK.to (K:HK F σ B u P L H){Q:Rg}{L':LayH}(e:Ext P u u')(h:HH u' Q L' H')(hq:∀b,b<u'.size->Q b->P b\/u.size<=b):HK F σ B u' (Cut Q u') L' H':=K.toX e h λb d a=>(hq b d a).imp id .inl
theorem HK.fin (K:HK F σ B u P L H){L0:LayH}{H0:Hw}(h0:HH σ F L0 H0):HH u (Grow F σ) L H:=h0.grown K.h λb _ a=>(K.p b a).1.imp (λh=>h.1) id
def Fr (A' A:AR):Prop:=A'.tb=A.tb/\A'.room=A.room/\A'.tra=A.tra
theorem Fr.traT {A' A:AR}(h:Fr A' A)(Y:Lay):Go.Ar.traT A' Y=Go.Ar.traT A Y:=by
 funext k;unfold Go.Ar.traT;rw[h.1,h.2.1,h.2.2]
theorem WbZ (A:AR)(k m:Int):Fr (YQ A k m) A:=by
 unfold YQ;split<;>exact⟨rfl,rfl,rfl⟩
theorem We9 (A:AR)(k:Int)(xs:List Int):Fr (Ze A k xs) A:=⟨(Vy A k xs).1,(Vy A k xs).2.1,(Vy A k xs).2.2.1⟩
theorem WlT (A:AR)(sp:Sp)(m a no:Nat):Fr (getA A sp m a no).2.1 A:=⟨(HU A sp m a no).1,(HU A sp m a no).2.2.2.1,(HU A sp m a no).2.2.1⟩
theorem Whd (A:AR)(x:Int):Fr (QH A x) A:=by
 unfold QH;split<;>exact⟨rfl,rfl,rfl⟩
theorem WhN (A:AR)(sp:Sp)(k:Int):Fr (growS A sp k).1 A:=by
 unfold growS;split
 ·split
  ·rename_i c ss h1 h2;have h:=WlT A sp c.pages 1 (k.toNat+1);generalize getA A sp c.pages 1 (k.toNat+1)=r at h;obtain⟨o,A',a⟩:=r;cases o with
   | none=>exact h
   | some x=>
    simp only;split<;>exact h
  ·exact⟨rfl,rfl,rfl⟩
 ·exact⟨rfl,rfl,rfl⟩
theorem Wf0 (A:AR)(sp:Sp)(m a:Int):Fr (takeAS A sp m a).1 A:=by
 unfold takeAS;split
 ·have h:=WlT A sp m.toNat a.toNat 41;generalize getA A sp m.toNat a.toNat 41=r at h;obtain⟨o,A',b⟩:=r;cases o<;>exact h
 ·exact⟨rfl,rfl,rfl⟩
theorem WjE (A:AR)(k:Int):(ZQ A k).tb=A.tb:=by unfold ZQ;split<;>rfl
theorem WmB (A:AR)(k:Int)(xs:List Int):(Q9 A k xs).tb=A.tb:=by unfold Q9;split<;>rfl
theorem HH.stepA' (h:HH σ F L H)(hk:H.ars[k]?=some A)(hy:L.ys[k]?=some Y):∃G:Rg,(∀b,G b->F b)/\AHY σ G Y A (traT A Y)/\∀(σ':Hp) (A':AR) (Q:Rg),A'.tb=A.tb->Ext G σ σ'->(∀b,Q b->G b\/σ.size<=b)->AHY σ' (λb=>Grow G σ b/\¬Q b) Y A' (traT A' Y) →
 Ext F σ σ'/\HH σ' (λb=>Grow F σ b/\¬Q b) L (H.setA k A'):=by
 obtain⟨Y',G,g,_,j,w,d⟩:=h.stepA hk;rw[hy]at g;cases g;refine⟨G,j,w,λσ' A' Q i e m s=>?_⟩;obtain⟨r,p⟩:=d σ' A' _ i e (λb a=>a.1) s;refine⟨r,p.mono (λb _ a=>?_) (h.oG.sub λb a=>a.1) λa=>h.oG2 a.1⟩;rcases a with a|a
 ·exact⟨.inl a.1,λu=>by
   rcases m b u with h2|h2
   ·exact a.2.2 h2
   ·have:=a.2.1;omega⟩
 ·exact⟨a.1.imp (j b) id,a.2⟩
theorem AHY.mono0 {T:Nat->Hp->Rg->Prop}{G Q:Rg}(h:AHY σ G Y A T)(hq:∀b,¬Q b):AHY σ (λb=>G b/\¬Q b) Y A T:=h.mono λb _ a=>⟨a,hq b⟩
theorem HH.stepA0 (h:HH σ F L H)(hk:H.ars[k]?=some A)(hy:L.ys[k]?=some Y):∃G:Rg,(∀b,G b->F b)/\AHY σ G Y A (traT A Y)/\∀(σ':Hp) (A':AR),A'.tb=A.tb->Ext G σ σ'->AHY σ' (Grow G σ) Y A' (traT A' Y) →
 Ext F σ σ'/\HH σ' (Grow F σ) L (H.setA k A'):=by
 obtain⟨G,i,p,a⟩:=h.stepA' hk hy;refine⟨G,i,p,λσ' A' g e m=>?_⟩;obtain⟨j,r⟩:=a σ' A' (λ_=>False) g e (λb d=>d.elim) (m.mono0 λ_=>id);exact⟨j,r.mono (λb _ d=>d.1) h.oG h.oG2⟩
theorem GT (h:HH σ F L H)(hk:H.ars[k]?=some A)(hy:L.ys[k]?=some Y)(c:Int){R:Sl->Int->Hp->Prop}
 (hR:∀s σ' (Q:Rg),Ext F σ σ'->(∀b,Q b->F b)->SlR s 1 (Wv (YL A c)) σ' Q->s.len<=s.cap->HH σ' (λb=>Grow F σ b/\¬Q b) L (H.setA k (ZQ A c))->R s (Z6 A c) σ') :
 Wz.c (aW Y.p) c σ R:=by
 obtain⟨G,j,u,g⟩:=h.stepA' hk hy;refine GU u c λs σ' e i x d r=>?_;obtain⟨m,w⟩:=g σ' (ZQ A c) (InB s) (WjE A c) e (λb a=>.inl (i b a)) (r.mono λb _ a=>⟨.inl a.1,a.2⟩);exact hR s σ' (InB s) m (λb a=>j b (i b a)) x d w
theorem WaN (h:HH σ F L H)(hk:H.ars[k]?=some A)(hy:L.ys[k]?=some Y)(c m:Int){R:Sl->Int->Hp->Prop}
 (hR:∀s σ' (Q:Rg),Ext F σ σ'->(∀b,Q b->σ.size<=b)->RowR s 1 (ints (Yt A c m)) σ' Q->HH σ' (λb=>Grow F σ b/\¬Q b) L (H.setA k (YQ A c m))->R s (QI A c m) σ') :
 WE.c (aW Y.p) c m σ R:=by
 obtain⟨G,x,u,d⟩:=h.stepA' hk hy;refine Wbq u c m λs σ' e j r=>?_;have g:traT (YQ A c m) Y=traT A Y:=(WbZ A c m).traT Y;obtain⟨i,w⟩:=d σ' (YQ A c m) (λb=>σ.size<=b) (WbZ A c m).1 e (λb a=>.inr a) (by rw[g];exact r.mono λb _ a=>⟨.inl a.1,by have:=a.2;omega⟩);exact hR s σ' _ i (λb a=>a) j w
theorem Wbj (h:HH σ F L H)(hk:H.ars[k]?=some A)(hy:L.ys[k]?=some Y)(c:Int){sl:Sl}{xs:List Int}{X:Rg}(hs:SlR sl 1 (Wv xs) σ X)(hi:∀x∈xs,I63 x){R:Bool->Int->Hp->Prop}
 (hR:∀σ',Ext F σ σ'->HH σ' (Grow F σ) L (H.setA k (Q9 A c xs))->R (Vi A c xs) (Hj A c xs) σ'):WJ.c (aW Y.p) c sl σ R:=by
 obtain⟨G,j,g,a⟩:=h.stepA0 hk hy;refine WcJ g c hs hi λσ' e d=>?_;obtain⟨b,i⟩:=a σ' _ (WmB A c xs) e d;exact hR σ' b i
theorem WcI (h:HH σ F L H)(hk:H.ars[k]?=some A)(hy:L.ys[k]?=some Y)(c:Int){sl:Sl}{xs:List Int}{X:Rg}(hs:SlR sl 1 (Wv xs) σ X)(hX:∀b,b<σ.size->X b->¬F b)(hi:∀x∈xs,I63 x)(hl:xs.length<=1000000)(hcap:sl.len<=sl.cap){R:aN}
 (hR:∀σ',Ext F σ σ'->HH σ' (Grow F σ) L (H.setA k (Ze A c xs))->R (QW A c xs) σ'):WA.c (aW Y.p) c sl σ R:=by
 obtain⟨G,g,m,a⟩:=h.stepA0 hk hy;refine GF m c hi hl hcap (.inl ⟨X,hs,λb r w s=>hX b r w (g b s)⟩) λσ' e j=>?_;have d:traT (Ze A c xs) Y=traT A Y:=(We9 A c xs).traT Y;obtain⟨i,u⟩:=a σ' _ (We9 A c xs).1 e (by rw[d];exact j);exact hR σ' i u
theorem Wcq (h:HH σ F L H)(hk:H.ars[k]?=some A)(hy:L.ys[k]?=some Y)(x:Int)(hf:∀r∈A.runs,r.1<=1000000){R:aN}
 (hR:∀σ',Ext F σ σ'->HH σ' (Grow F σ) L (H.setA k (QH A x))->R (KQ A x) σ'):WR.c (aW Y.p) x σ R:=by
 obtain⟨G,m,i,a⟩:=h.stepA0 hk hy;refine Wdb i x hf λσ' e g=>?_;have b:traT (QH A x) Y=traT A Y:=(Whd A x).traT Y;obtain⟨d,j⟩:=a σ' _ (Whd A x).1 e (by rw[b];exact g);exact hR σ' d j
theorem WhO (h:HH σ F L H)(hk:H.ars[k]?=some A)(hy:L.ys[k]?=some Y)(c:Int){R:aN}
 (hR:∀σ',Ext F σ σ'->HH σ' (Grow F σ) L {H.setA k (growS A H.sp c).1 with sp:=(growS A H.sp c).2}->R (KP A H.sp c) σ'):Yp.c (aW Y.p) c σ R:=by
 obtain⟨Y',G,D,b,_,g,a⟩:=h.stepAS hk;rw[hy]at b;cases b;refine Wlu g c λσ' G' D' m e j=>?_;have d:traT (growS A H.sp c).1 Y=traT A Y:=(WhN A H.sp c).traT Y;obtain⟨i,r⟩:=a σ' _ _ G' D' (WhN A H.sp c).1 e m (by rw[d];exact j);exact hR σ' i r
theorem Wbm (h:HH σ F L H)(hk:H.ars[k]?=some A)(hy:L.ys[k]?=some Y)(m a:Int){R:Int->Int->Hp->Prop}
 (hR:∀σ',Ext F σ σ'->HH σ' (Grow F σ) L {H.setA k (takeAS A H.sp m a).1 with sp:=(takeAS A H.sp m a).2}->R ((Z5 A H.sp m a:Nat):Int) (Qz A H.sp m a) σ'):WS.c (aW Y.p) m a σ R:=by
 obtain⟨Y',G,D,d,_,i,b⟩:=h.stepAS hk;rw[hy]at d;cases d;refine WcA i m a λσ' G' D' s e r=>?_;have g:traT (takeAS A H.sp m a).1 Y=traT A Y:=(Wf0 A H.sp m a).traT Y;obtain⟨j,u⟩:=b σ' _ _ G' D' (Wf0 A H.sp m a).1 e s (by rw[g];exact r);exact hR σ' j u
def Hw.setLs (H:Hw)(t:Nat)(g:Th)(ls:List Li):Hw:={H with ths:=H.ths.set t {g with ls:=ls}}
theorem HH.stepC' (h:HH σ F L H)(hx:L.ts[t]?=some x)(hg:H.ths[t]?=some g):∃G:Rg,(∀b,G b->F b)/\CaY σ G x.c H.tb H.cf.budget g.ls/\∀(σ':Hp) (ls:List Li) (Y':LayC) (Q:Rg),Y'.p=x.c.p->Ext G σ σ'->(∀b,Q b->σ.size<=b)->CaY σ' (λb=>Grow G σ b/\¬Q b) Y' H.tb H.cf.budget ls →
 Ext F σ σ'/\HH σ' (λb=>Grow F σ b/\¬Q b) {L with ts:=L.ts.set t {x with c:=Y'}} (H.setLs t g ls):=by
 obtain⟨G,i,u,d⟩:=h.stepC hx hg;refine⟨G,i,u,λσ' ls Y' Q w e j r=>?_⟩;obtain⟨m,y⟩:=d σ' ls Y' _ w e (λb a=>a.1) r;refine⟨m,y.mono (λb _ a=>?_) (h.oG.sub λb a=>a.1) λa=>h.oG2 a.1⟩;rcases a with a|a
 ·exact⟨.inl a.1,λs=>by have:=a.2.1;have:=j b s;omega⟩
 ·exact⟨a.1.imp (i b) id,a.2⟩
theorem HH.stepC0 (h:HH σ F L H)(hx:L.ts[t]?=some x)(hg:H.ths[t]?=some g):∃G:Rg,(∀b,G b->F b)/\CaY σ G x.c H.tb H.cf.budget g.ls/\∀(σ':Hp) (ls:List Li) (Y':LayC),Y'.p=x.c.p->Ext G σ σ'->CaY σ' (Grow G σ) Y' H.tb H.cf.budget ls →
 Ext F σ σ'/\HH σ' (Grow F σ) {L with ts:=L.ts.set t {x with c:=Y'}} (H.setLs t g ls):=by
 obtain⟨G,i,r,d⟩:=h.stepC' hx hg;refine⟨G,i,r,λσ' ls Y' s e m=>?_⟩;obtain⟨j,u⟩:=d σ' ls Y' (λ_=>False) s e (λb a=>a.elim) (m.mono λb _ a=>⟨a,id⟩);exact⟨j,u.mono (λb _ a=>a.1) h.oG h.oG2⟩
theorem Wlw (h:HH σ F L H)(hx:L.ts[t]?=some x)(hg:H.ths[t]?=some g)(hc:H.tb[k]?=some c)(hl:g.ls[k]?=some l){R:Int->Int->Hp->Prop}
 (hR:∀σ' ts',Ext F σ σ'->HH σ' (Grow F σ) {L with ts:=ts'} (H.setLs t g (g.ls.set k (Ka c l).2))->R ((Ka c l).1.getD 0) (if(Ka c l).1.isSome then 0 else 4) σ'):Yh.c (aW x.c.p) (k:Int) σ R:=by
 obtain⟨G,r,m,a⟩:=h.stepC0 hx hg;refine Take_ok m hc hl λσ' Y' e i d=>?_;obtain⟨b,j⟩:=a σ' _ Y' i e d;exact hR σ' _ b j
theorem WjU (h:HH σ F L H)(hx:L.ts[t]?=some x)(hg:H.ths[t]?=some g)(hc:H.tb[k]?=some c)(hl:g.ls[k]?=some l){R:Int->Int->Hp->Prop}
 (hR:∀σ' ts',Ext F σ σ'->HH σ' (Grow F σ) {L with ts:=ts'} H->R ((Wav c l:Nat):Int) 0 σ'):Ye.c (aW x.c.p) (k:Int) σ R:=by
 obtain⟨G,s,r,a⟩:=h.stepC0 hx hg;refine WmA r hc hl λσ' Y' e m j=>?_;obtain⟨i,b⟩:=a σ' _ Y' m e j;have d:H.setLs t g g.ls=H:=by
  unfold Hw.setLs;rw[Qj hg]
 rw[d]at b;exact hR σ' _ i b
theorem WjS (h:HH σ F L H)(hx:L.ts[t]?=some x)(hg:H.ths[t]?=some g)(hc:H.tb[k]?=some c)(hl:g.ls[k]?=some l){sl:Sl}{xs:List Int}{X:Rg}(hs:SlR sl 1 (Wv xs) σ X)(hX:∀q,X q->¬F q)(hfit:l.os.length+xs.length<=256){R:aN}
 (hR:∀σ' ts',Ext F σ σ'->HH σ' (Grow F σ) {L with ts:=ts'} (H.setLs t g (g.ls.set k (addL xs.reverse l)))->R 0 σ'):Yo.c (aW x.c.p) (k:Int) sl σ R:=by
 obtain⟨G,b,s,a⟩:=h.stepC0 hx hg;refine WmP s hc hl hs (λq i hg=>hX q i (b q hg)) hfit λσ' Y' e m j=>?_;obtain⟨d,r⟩:=a σ' _ Y' m e j;exact hR σ' _ d r
theorem Wnz (h:HH σ F L H)(hx:L.ts[t]?=some x)(hg:H.ths[t]?=some g)(hc:H.tb[k]?=some c)(hl:g.ls[k]?=some l)(y:Int){R:Sl->Int->Hp->Prop}
 (hR:∀σ' ts' s e (Q:Rg),Ext F σ σ'->(∀q,Q q->σ.size<=q)->RowR s 1 (Wv (putL c y l).1) σ' Q->HH σ' (λb=>Grow F σ b/\¬Q b) {L with ts:=ts'} (H.setLs t g (g.ls.set k (putL c y l).2))->R s e σ'):YR.c (aW x.c.p) (k:Int) y σ R:=by
 obtain⟨G,A,r,a⟩:=h.stepC' hx hg;refine Wos r hc hl y λσ' Y' s w Q e m _ d z j=>?_;obtain⟨i,u⟩:=a σ' _ Y' Q m e d j;exact hR σ' _ s w Q i d z u
theorem WlF (h:HH σ F L H)(hx:L.ts[t]?=some x)(hg:H.ths[t]?=some g){R:aO}(hR:∀σ',Ext0 σ σ'->R (decide (H.cf.budget<Qt H.tb g.ls)) σ'):Ym.c (aW x.c.p) σ R:=by
 obtain⟨G,d,b,a⟩:=h.stepC0 hx hg;exact Wmb b hR
theorem Wja (hso:HY)(h:HH σ F L H)(hx:L.ts[t]?=some x)(hg:H.ths[t]?=some g){R:Sl->Hp->Prop}
 (hR:∀σ' s (Q:Rg),Ext F σ σ'->(∀q,Q q->σ.size<=q)->BtR s (Kb ZX H.tb g.ls) σ' Q->HH σ' (λb=>Grow F σ b/\¬Q b) L (H.setLs t g (Q8 ZX H.tb g.ls))->R s σ'):XR.c (aW x.c.p) σ R:=by
 obtain⟨G,w,r,a⟩:=h.stepC' hx hg;refine Wku hso r λσ' s Q e d m u=>?_;obtain⟨j,i⟩:=a σ' _ x.c Q rfl e d m;rw[show L.ts.set t {x with c:=x.c}=L.ts from Qj hx]at i;exact hR σ' s Q j d u i
theorem Wdy (hso:HY)(h:HH σ F L H)(hx:L.ts[t]?=some x)(hg:H.ths[t]?=some g){R:Sl->Hp->Prop}
 (hR:∀σ' s (Q:Rg),Ext F σ σ'->(∀q,Q q->σ.size<=q)->BtR s (Kb KJ H.tb g.ls) σ' Q->HH σ' (λb=>Grow F σ b/\¬Q b) L (H.setLs t g (Q8 KJ H.tb g.ls))->R s σ'):Xc.c (aW x.c.p) σ R:=by
 obtain⟨G,w,r,a⟩:=h.stepC' hx hg;refine Wen hso r λσ' s Q e d m u=>?_;obtain⟨j,i⟩:=a σ' _ x.c Q rfl e d m;rw[show L.ts.set t {x with c:=x.c}=L.ts from Qj hx]at i;exact hR σ' s Q j d u i
def AtH (S:aP)(L:LayH)(tb:List Cls):Prop:=∀m,S m->∃(P:Rg) (ts:List LayT) (H:Hw),HH m P {L with ts:=ts} H/\H.tb=tb
theorem AtH.tab {S:aP}{tb:List Cls}(hS:AtH S L tb){K:Sl->Prop}(hK:K L.tab):LdH S .s (Addr.add ⟨L.p,0,none⟩ 0) K:=⟨L.tab,λm a=>by obtain⟨_,_,_,h,_⟩:=hS m a;rw[add_lit,h.hd.cell];rfl,hK⟩
theorem AtH.arow {S:aP}{tb:List Cls}(hS:AtH S L tb){K:Sl->Prop}(hK:K L.arow):LdH S .s (Addr.add ⟨L.p,0,none⟩ 7) K:=⟨L.arow,λm a=>by obtain⟨_,_,_,h,_⟩:=hS m a;rw[add_lit,h.hd.cell];rfl,hK⟩
theorem AtH.rA {S:aP}{tb:List Cls}(hS:AtH S L tb)(h:HH σ F L H)(hy:L.ys[k]?=some Y){K:Option Addr->Prop}(hK:K (some ⟨Y.p,0,none⟩)):Ix L.arow.a L.arow.len (k:Int) 1 λa=>LdH S .p a K:=by
 have i:(ptrV (L.ys.map (·.p)))[k]?=some (.pointer (some ⟨Y.p,0,none⟩)):=by simp[ptrV,hy]
 obtain⟨b,o,j,_⟩:=h.arowS.cell i;have x:=(gSi.1 hy).1;have r:=h.arowL;have:=h.s.ys;rw[j];refine ix O O ⟨_,λm u=>?_,hK⟩;obtain⟨_,_,_,e,_⟩:=hS m u;obtain⟨w,y,d,g⟩:=e.arowS.cell i;rw[j]at d;cases d;rw[add_lit,show o+(k:Int).toNat*1=o+k by omega];exact g
theorem AtH.rC {S:aP}(hS:AtH S L H.tb)(h:HH σ F L H)(hc:H.tb[k]?=some c){K:Int->Prop}(hK:K (c.size:Int)):Ix L.tab.a L.tab.len (k:Int) 3 λa=>LdH S bN (a.add 0) K:=by
 have j:(tabV H.tb)[3*k+0]?=some (.int .i64 (c.size:Int)):=(HG hc).1;obtain⟨b,o,r,_⟩:=h.tabS.cell j;have x:=(gSi.1 hc).1;have s:=h.tabL;rw[r];refine ix O O ⟨_,λm u=>?_,hK⟩;obtain⟨_,_,_,e,p⟩:=hS m u;rw[←p]at j;obtain⟨w,y,d,g⟩:=e.tabS.cell j;have d:L.tab.a=_:=d;rw[r]at d;cases d;rw[add_lit,add_lit,show o+(k:Int).toNat*3+0=o+(3*k+0) by omega];exact g
end Go.Ar
namespace Go.Ar
open Go Go.Vc Go.Proofs
variable {σ u u':Hp}{F B P Q:Rg}{L:LayH}{H H':Hw}{t k n pb:Nat}{A:AR}{Y:Lay}{x:LayT}{g:Th}{c:Cls}{l:Li}{cs:List Value}{parts:List (List Int)}{xs:List Int}
theorem HK.ownE (K:HK F σ B u P L H)(e:Ext B u u'){B':Rg}(hB:∀b,B' b->B b\/u.size<=b/\b<u'.size):HK F σ B' u' P L H:=by
 have r:=e.1;have j:=K.e.1;have i:Off B/\¬B 1:=⟨K.o.1.sub λb g=>(K.b b g).1,λg=>K.o.2 (K.b _ g).1⟩;refine⟨K.h.keep e (λb _ a d=>(K.p b a).2.1 d) i.1 i.2,K.e.newT e λb m=>.inr (K.b b m).1,λb a=>⟨(K.p b a).1,λg=>?_,by have:=(K.p b a).2.2;omega⟩,λb a=>?_,K.o⟩
 ·rcases hB b g with d|d
  ·exact(K.p b a).2.1 d
  ·have:=(K.p b a).2.2;omega
 ·rcases hB b a with d|d
  ·have:=K.b b d;omega
  ·omega
def sV (s:Sl):Value:=.slice s.a s.len s.cap
def PtR (pb:Nat)(parts:List (List Int)):Hp->Rg->Prop:=λu Q=>∃(ps:List Sl) (Qs:Nat->Rg),ps.length=parts.length/\Q pb/\Blk u pb (ps.map sV)/\(∀j b,Qs j b->Q b/\b≠pb)/\(∀j j' b,Qs j b->Qs j' b->j=j') ∧
 ∀j s xs,ps[j]?=some s->parts[j]?=some xs->RowO s 1 (Wv xs) u (Qs j)
theorem PtR.loc (pb:Nat)(parts:List (List Int)):Lcl (PtR pb parts):=by
 rintro σ H F G ⟨z,Qs,A,w,r,g,y,x⟩ E i;have m:=i pb r.lt w;obtain⟨e,B⟩:=r;refine⟨z,λj b=>Qs j b/\b<σ.size,A,m.1,⟨e,m.2.trans B⟩,λj b d=>⟨(i b d.2 (g j b d.1).1).1,(g j b d.1).2⟩,λj u b a D=>y j u b a.1 D.1,λj s C a b=>(RowO.loc _ _ _) _ _ _ _ (x j s C a b) E λb d p=>⟨⟨p,d⟩,(i b d (g j b p).1).2⟩⟩
theorem PtR.add (h:PtR pb parts u Q){a m e1 e2:Nat}(hm:m=parts.length)(ha:parts[a]?=some xs)(y:Int)(hl:xs.length<=1000000){K:aP}(hK:∀u',Ext Q u u'->PtR pb (parts.set a (xs++[y])) u' (Grow Q u)->K u') :
 Ix (some ⟨pb,0,none⟩) m (a:Int) 1 λa1=>LdS a1 u λt35=>Nw (.cells #[.int .i64 y] e1 (0,0)) u λn37 v4=>App t35 1 8 e2 [.int .i64 0] ⟨some n37,1,1⟩ v4 λt38 v5=>Ix (some ⟨pb,0,none⟩) m (a:Int) 1 λa39=>St1 a39 (.slice t38.a t38.len t38.cap) v5 λv6=>K v6:=by
 obtain⟨B,Qs,h1,N,G,A,S,P⟩:=h;have L:=(gSi.1 ha).1;have z:B[a]?=some (B[a]' O):=gGe _;generalize (B[a]' O)=s at z;have i:=P a s xs z ha;have hsl:s.len=xs.length:=by have:=i.1;simp[Wv]at this;omega
 refine ix O O ?_;rw[add_lit,show 0+(a:Int).toNat*1=a by omega];refine G.rS0 (a:=s.a) (n:=s.len) (c:=s.cap) (by simp[z,sV]) ?_;refine nw (cs:=[.int .i64 y]) λv4 hz e d=>?_;have p:=(RowO.loc _ _ _).keep0 ((RowO.loc _ _ _).cut i) e;have F:=e.blk G id;refine p.app (x:=⟨some ⟨u.size,0,none⟩,1,1⟩) (ys:=[.int .i64 y]) rfl rfl ?_ (by simp[one1]) ?_ ?_ zBG λV v5 hl5 D H=>?_
 ·intro j w hw;rw[add_lit,zG,d.cell];exact hw
 ·simp only;omega
 ·simp only;omega
 have W:=D.1;have M:Blk v5 pb (B.map sV):=D.blk F λr=>(A a pb r.1).2 rfl;refine ix O O ?_;rw[add_lit,show 0+(a:Int).toNat*1=a by omega];refine M.s0 aE λu' R g=>?_;have Y:=R.1;have J:Ext (· = pb) v5 u':=R.ext;have Z:Ext Q u u':=((Ext0.to e).trans (D.sub λb d=>(A a b d.1).1)).trans (J.sub λb d=>by rw[d];exact N);have X:=G.lt;refine hK u' Z ⟨B.set a V,λj b=>Qs j b/\b<u.size\/j=a/\v4.size<=b/\b<v5.size,by simp[h1],.inl N,?_,λj b d=>?_,λj j' b d g=>?_,λj U ys E C=>?_⟩
 ·rw[zDJ];exact g
 ·rcases d with d|d
  ·exact⟨.inl (A j b d.1).1,(A j b d.1).2⟩
  ·exact⟨.inr O,O⟩
 ·rcases d with d|d<;>rcases g with g|g
  ·exact S j j' b d.1 g.1
  ·omega
  ·omega
  ·omega
 ·by_cases hja:j=a
  ·subst hja;rw[zL O]at E;rw[zL L]at C;cases E;cases C;have:=(RowO.loc _ _ _).keep ((RowO.loc _ _ _).cut H) J λb _ d r=>by
    rcases d.1 with h7|h7
    ·exact(A j b h7.1).2 r
    ·omega
   have e7:Wv (xs++[y])=Wv xs++[.int .i64 y]:=by simp[Wv]
   rw[e7];refine(RowO.loc _ _ _).mono this λb _ d=>?_;rcases d.1 with h7|h7
   ·exact .inl h7
   ·exact .inr ⟨rfl,h7,d.2⟩
  ·rw[zi (Ne.symm hja)]at E C;have:=(RowO.loc _ _ _).cut (P j U ys E C);have:=(RowO.loc _ _ _).keep ((RowO.loc _ _ _).keep ((RowO.loc _ _ _).keep0 this e) D λb _ d r=>hja (S j a b d.1 r.1)) J λb _ d r=>(A j b d.1).2 r;exact(RowO.loc _ _ _).mono this λb _ d=>.inl d
theorem PtR.get (h:PtR pb parts u Q){a m:Nat}(hm:m=parts.length)(ha:parts[a]?=some xs){K:Sl->Prop}(hK:∀s,RowO s 1 (Wv xs) u Q->s.len=xs.length->K s):Ix (some ⟨pb,0,none⟩) m (a:Int) 1 λa1=>LdS a1 u K:=by
 obtain⟨g,Qs,y,x,j,w,z,i⟩:=h;have p:=(gSi.1 ha).1;have e:g[a]?=some (g[a]' O):=gGe _;generalize (g[a]' O)=s at e;have d:=i a s xs e ha;refine ix O O ?_;rw[add_lit,show 0+(a:Int).toNat*1=a by omega];refine j.rS0 (a:=s.a) (n:=s.len) (c:=s.cap) (by simp[e,sV]) (hK s ((RowO.loc _ _ _).mono d λb _ r=>(w a b r).1) ?_);have:=d.1;simp[Wv]at this;omega
theorem WaJ {ars:List AR}{x:Int}(h:0<=YJ ars x):(YJ ars x).toNat<ars.length/\YJ ars x=((YJ ars x).toNat:Int):=by
 refine⟨?_,O⟩;unfold YJ at *;split at h
 ·omega
 ·rename_i hx;rw[zA hx];split at h
  ·rename_i i hi;have:=(zFU.1 hi).1;simp only[iTn];exact this
  ·omega
theorem Wjx {ars:List AR}{x:Int}{xs:List Int}(h:0<=YJ ars x):((List.range ars.length).map (ZW ars xs)).set (YJ ars x).toNat (ZW ars xs (YJ ars x).toNat++[x])=(List.range ars.length).map (ZW ars (xs++[x])):=by
 have a:=WaJ h;apply zu;intro j;by_cases hj:j<ars.length
 ·by_cases e:(YJ ars x).toNat=j
  ·subst e;rw[zL (by simpa using hj)];simp only[zf,zBN hj,zg,ZW,zEH]
   congr 2
   rw[zDM (by rw[←a.2];simp)];rfl
  ·rw[zi e];simp only[zf,zBN hj,zg,ZW,zEH];have:List.filter (λy=>YJ ars y==(j:Int)) [x]=[]:=by
    rw[zDL (by simp only[zZ];omega)];rfl
   rw[this,zy]
 ·rw[zY aE,zY aE]
theorem UP {K:aO}{body:(Bool->Hp->Prop)->Prop}(P:aO)(h1:∀r w,P r w->K r w)(h2:∀J:Bool->Hp->Prop,(∀r w,P r w->J r w)->body J):JnB K body:=JnB.intro (h2 K h1)
theorem WkQ {K:Fam [.b]}{body:Fam [.b]->Prop}(P:aO)(h1:∀r w,P r w->K r w)(h2:∀J:Fam [.b],(∀r w,P r w->J r w)->body J):Jn [.b] K body:=Jn.intro (h2 K h1)
theorem Wbo {K:Fam []}{body:Fam []->Prop}(P:aP)(h1:∀w,P w->K w)(h2:∀J:Fam [],(∀w,P w->J w)->body J):Jn [] K body:=Jn.intro (h2 K h1)
theorem Vm {H:Hw}{k:Nat}{part:Nat->List Int}(j:Nat):Vb H k part (List.range (j+1))=(match (Vb H k part (List.range j)).ars[j]? with
 | some A=>if part j=[]then Vb H k part (List.range j)else(Vb H k part (List.range j)).setA j (Ze A (k:Int) (part j))
 | none=>Vb H k part (List.range j)):=by
 unfold Vb;rw[zAB,zAS];rfl
theorem Wc6 {H:Hw}{k:Nat}{part:Nat->List Int}(j:Nat):(Vb H k part (List.range j)).ars.length=H.ars.length:=by
 induction j with
 | zero=>rfl
 | succ j ih=>
  rw[Vm];split
  ·split
   ·exact ih
   ·simp[Hw.setA,ih]
  ·exact ih
theorem WgI {H:Hw}{k:Nat}{part:Nat->List Int}(j:Nat):(Vb H k part (List.range j)).ths=H.ths:=by
 induction j with
 | zero=>rfl
 | succ j ih=>
  rw[Vm];split
  ·split<;>exact ih
  ·exact ih
theorem WaL (H:Hw)(own k:Nat)(xs:List Int):(Gh H own k xs).ths=H.ths:=by
 unfold Gh;split
 ·split
  ·rfl
  ·rw[WgI];split<;>rfl
 ·rfl
def BkI (F:Rg)(σ:Hp)(L:LayH)(H:Hw)(pb:Nat)(parts:List (List Int))(cs:List Value)(w:Hp):Prop:=∃Q P:Rg,HK F σ (λb=>b=σ.size\/Q b) w P L H/\PtR pb parts w Q/\Blk w σ.size cs/\∀b,Q b->b≠σ.size
theorem Wlh (h:HH σ F L H){own:Nat}(ho:own<H.ars.length)(k:Nat){sl:Sl}{xs:List Int}{X:Rg}(hs:SlR sl 1 (Wv xs) σ X)(hX:∀b,b<σ.size->X b->¬F b)(hcap:sl.len<=sl.cap)(hx:∀x∈xs,I63 x/\0<=YJ H.ars x)(hl:xs.length<=1000000){R:aP}
 (hR:∀σ',Ext F σ σ'->HH σ' (Grow F σ) L (Gh H own k xs)->R σ'):Zz.c (aW L.p) (own:Int) (k:Int) sl σ R:=by
 refine Zz.o ?_;unfold Zz.v;have hsl:sl.len=xs.length:=by have:=hs.1;simp[Wv]at this;omega
 have ha2:=h.s.a2;have hal:=h.arowL;have hs1:∀u,Ext F σ u->SlR sl 1 (Wv xs) u (λb=>X b/\b<σ.size):=λu eu=>aH.keep (aH.cut hs) eu λb _ hx hf=>hX b hx.2 hx.1 hf;refine nw (cs:=[.int .i64 (k:Int),.slice sl.a sl.len sl.cap]) λv hz e d=>?_;have K1:=(HK.start h).box e hz;refine nilP (K1.h.hd.rS rfl ?_);simp only;refine mk (n:=L.arow.len) O O λv1 ad D hb1=>?_;have K2:=K1.box D ad;have hb2:=D.blk d id;have U:PtR v.size ((List.range H.ars.length).map (ZW H.ars [])) v1 (λb=>b=v.size):=by
  refine⟨List.replicate H.ars.length ⟨none,0,0⟩,λ_ _=>False,by simp,rfl,?_,λj b d=>d.elim,λj j' b d=>d.elim,λj s ys g h2=>?_⟩
  ·have:(List.replicate L.arow.len [Value.slice none 0 0]).flatten=(List.replicate H.ars.length (⟨none,0,0⟩:Sl)).map sV:=by
    rw[hal];simp[sV]
   rw[←this];exact hb1
  ·simp only[zf,zCJ]at h2;obtain⟨a,_,rfl⟩:=h2;simp only[zAU]at g;split at g
   ·cases g;exact RowO.nil _ _ _ _
   ·cases g
 have hpl:∀ys:List Int,L.arow.len=((List.range H.ars.length).map (ZW H.ars ys)).length:=λys=>by simp[hal]
 refine hb2.rS rfl ?_;refine ZS (a:=bN) (λ(z:Int) w=>∃i:Nat,z=(i:Int)/\i<=xs.length/\BkI F σ L H v.size ((List.range H.ars.length).map (ZW H.ars (xs.take i))) [.int .i64 (k:Int),.slice sl.a sl.len sl.cap] w) (λz _=>xs.length-z.toNat)
  ⟨0,rfl,O,λb=>b=v.size,_,⟨K2.h,K2.e,λb d=>⟨(K2.p b d).1,λhx=>(K2.p b d).2.1 (hx.imp .inr id),(K2.p b d).2.2⟩,λb d=>K2.b b (d.imp .inr id),K2.o⟩,U,hb2,λb d=>O⟩ ?_
 rintro z w ⟨i,rfl,hi,Q,P,K,U,C,hQ⟩;refine ifD (λM=>?_) λhge=>?_
 ·simp only at M;have hi':i<xs.length:=by omega
  have aa:xs[i]?=some xs[i]:=gGe hi';generalize xs[i]=y at aa;have hy:=hx y (zE aa);refine(hs1 w K.e).ixI aa (Wa9 K.h y hy.1 λZ D=>?_);have M:=WaJ hy.2;rw[M.2];have hP1:PtR v.size _ Z (λb=>Q b/\b<w.size):=(PtR.loc _ _).keep0 ((PtR.loc _ _).cut U) D;have hpart:((List.range H.ars.length).map (ZW H.ars (xs.take i)))[(YJ H.ars y).toNat]?=some (ZW H.ars (xs.take i) (YJ H.ars y).toNat):=by
   simp only[zf,zBN M.1,zg]
  have hpl1:(ZW H.ars (xs.take i) (YJ H.ars y).toNat).length<=1000000:=by
   have:=zBA (λx=>YJ H.ars x==(((YJ H.ars y).toNat:Nat):Int)) (xs.take i);simp only[ZW];rw[zO]at this;omega
  refine hP1.add (hpl _) hpart y hpl1 λw2 e2 hP2=>?_;rw[Wjx hy.2]at hP2;have ht:xs.take i++[y]=xs.take (i+1):=by rw[zh,aa];rfl
  rw[ht]at hP2;have ad:=D.1;have hz2:=e2.1;refine arN (m:=i+1) O O ⟨⟨i+1,rfl,O,λb=>(Q b/\b<w.size)\/Z.size<=b/\b<w2.size,P,(K.fr D).ownE (e2.sub λb d=>.inr d.1) λb d=>?_,(PtR.loc _ _).mono hP2 λb d W=>?_,?_,λb d=>?_⟩,O⟩
  ·rcases d with d|d|d
   ·exact .inl (.inl d)
   ·exact .inl (.inr d.1)
   ·exact .inr d
  ·rcases W with W|W
   ·exact .inl W
   ·exact .inr ⟨W,d⟩
  ·exact e2.blk (D.blk C id) λhx=>hQ _ hx.1 rfl
  ·have:=(K.b σ.size (.inl rfl)).2;rcases d with d|d
   ·exact hQ b d.1
   ·omega
 ·have hii:i=xs.length:=by simp only at hge;omega
  subst hii;rw[zl]at U;obtain⟨A,hA⟩:∃A,H.ars[own]?=some A:=⟨_,gGe ho⟩;obtain⟨Y,hY,_,_⟩:=h.ar hA;have G:Gh H own k xs=(if(ZW H.ars xs own).length=xs.length/\Vi A (k:Int) xs=true then H.setA own (Q9 A (k:Int) xs)
   else Vb (if(ZW H.ars xs own).length=xs.length then H.setA own (Q9 A (k:Int) xs)else H) k (ZW H.ars xs) (List.range H.ars.length)):=by
   unfold Gh;rw[hA]
  have hown:((List.range H.ars.length).map (ZW H.ars xs))[own]?=some (ZW H.ars xs own):=by
   simp only[zf,zBN ho,zg]
  refine Wbo (λw=>¬((ZW H.ars xs own).length=xs.length/\Vi A (k:Int) xs=true)/\BkI F σ L (if(ZW H.ars xs own).length=xs.length then H.setA own (Q9 A (k:Int) xs)else H) v.size ((List.range H.ars.length).map (ZW H.ars xs)) [.int .i64 (k:Int),.slice sl.a sl.len sl.cap] w) (λw hw=>?_) λJ hJ=>?_
  ·obtain⟨hno,hw⟩:=hw;rw[zA hno]at G;generalize hH1:(if(ZW H.ars xs own).length=xs.length then H.setA own (Q9 A (k:Int) xs)else H)=H1 at hw G
   have hH1l:H1.ars.length=H.ars.length:=by
    rw[←hH1];split
    ·simp[Hw.setA]
    ·rfl
   refine ZS (a:=bN) (λ(z:Int) w=>∃j:Nat,z=(j:Int)/\j<=H.ars.length/\BkI F σ L (Vb H1 k (ZW H.ars xs) (List.range j)) v.size ((List.range H.ars.length).map (ZW H.ars xs)) [.int .i64 (k:Int),.slice sl.a sl.len sl.cap] w) (λz _=>H.ars.length-z.toNat) ⟨0,rfl,O,hw⟩ ?_;rintro z w ⟨j,rfl,hj,Q,P,K,U,C,hQ⟩;refine ifD (λM=>?_) λhge=>?_
   ·simp only at M;have hj':j<H.ars.length:=by omega
    have hpj:((List.range H.ars.length).map (ZW H.ars xs))[j]?=some (ZW H.ars xs j):=by
     simp only[zf,zBN hj',zg]
    refine U.get (hpl _) hpj λs N V=>?_;have hfl:=Wc6 (H:=H1) (k:=k) (part:=ZW H.ars xs) j;obtain⟨B,hB⟩:∃B,(Vb H1 k (ZW H.ars xs) (List.range j)).ars[j]?=some B:=⟨_,gGe O⟩;have E:=Vm (H:=H1) (k:=k) (part:=ZW H.ars xs) j;rw[hB]at E;simp only at E;refine ifD (λhpos=>?_) λhz0=>?_
    ·have S:ZW H.ars xs j≠[]:=λe=>by rw[e]at V;simp at V;omega
     rw[zA S]at E;obtain⟨Y,hY,_,_⟩:=K.h.ar hB;refine nilP (K.h.hd.rS rfl (K.h.rA hY (C.rI rfl ?_)));refine WcI K.h hB hY (k:Int) (RowO.slR N) (λb _ W hp=>(K.p b hp).2.1 (.inr W)) (λx hx'=>(hx x (zH.1 hx').1).1) ?_ (RowO.cap N) λZ D g=>?_
     ·have:=zBA (λx=>YJ H.ars x==(j:Int)) xs;simp only[ZW];omega
     ·have ad:=D.1;rw[←E]at g;refine arN (m:=j+1) O O ⟨⟨j+1,rfl,O,Q,_,K.to D g λb _ d=>d,(PtR.loc _ _).keep U D λb _ W hp=>(K.p b hp).2.1 (.inr W),K.keepB D C (.inl rfl),hQ⟩,O⟩
    ·have S:ZW H.ars xs j=[]:=zGJ O;rw[zB S]at E;refine arN (m:=j+1) O O ⟨⟨j+1,rfl,O,Q,P,by rw[E];exact K,U,C,hQ⟩,O⟩
   ·have hjj:j=H.ars.length:=by simp only at hge;omega
    subst hjj;rw[G]at hR;exact hR w K.e (K.fin h)
  ·refine U.get (hpl _) hown λs N V=>C.rS rfl ?_;refine iff_ (λheq=>?_) λS=>?_
   ·have ab:(ZW H.ars xs own).length=xs.length:=by simp only[zZ]at heq;omega
    rw[zB ab]at G hJ;have hS:AtH (λu=>(∃P' H',HH u P' L H'/\H'.tb=H.tb)/\Blk u σ.size [.int .i64 (k:Int),.slice sl.a sl.len sl.cap]) L H.tb:=λm hm=>by
     obtain⟨⟨P',H',g,h2⟩,_⟩:=hm;exact⟨P',L.ts,H',g,h2⟩
    refine⟨λu=>(∃P' H',HH u P' L H'/\H'.tb=H.tb)/\Blk u σ.size [.int .i64 (k:Int),.slice sl.a sl.len sl.cap],⟨⟨_,_,K.h,rfl⟩,C⟩,nilP (hS.arow (hS.rA K.h hY ?_))⟩;refine⟨(k:Int),λm hm=>by rw[add_lit,hm.2.cell];rfl,⟨sl,λm hm=>by rw[add_lit,hm.2.cell];rfl,?_⟩⟩;refine Wbj K.h hA hY (k:Int) (hs1 w K.e) (λx hx'=>(hx x hx').1) λZ D g=>?_;have K1:=K.to D g λb _ d=>d;refine⟨⟨⟨_,_,g,rfl⟩,K.keepB D C (.inl rfl)⟩,?_⟩;have fin:∀r,r=Vi A (k:Int) xs->((r=true->R Z)/\(r=false->J Z)):=λr hr=>by
     refine⟨λhr1=>?_,λhr1=>hJ Z ⟨λhx=>Bool.noConfusion ((hr1.symm.trans hr).trans hx.2),Q,_,K1,(PtR.loc _ _).keep U D λb _ W hp=>(K.p b hp).2.1 (.inr W),K.keepB D C (.inl rfl),hQ⟩⟩;rw[zB ⟨ab,by rw[←hr,hr1]⟩]at G;rw[G]at hR;exact hR Z K1.e (K1.fin h)
    refine UP (λr w=>w=Z/\r=Vi A (k:Int) xs) (λr w' ⟨hw,hr⟩=>?_) λJ3 hJ3=>?_
    ·subst hw;exact iff_ (λg=>(fin r hr).1 g) λg=>(fin r hr).2 g
    ·refine iff_ (λg=>hJ3 _ _ ⟨rfl,?_⟩) λg=>hJ3 _ _ ⟨rfl,g.symm⟩;have:Hj A (k:Int) xs=0:=by
      unfold Vi at g;simp only[zF,zT]at g;exact g.1
     rw[this,g];rfl
   ·have ac:¬(ZW H.ars xs own).length=xs.length:=by
     simp only[zBC]at S;omega
    rw[zA ac]at hJ;exact hJ w ⟨λhx=>ac hx.1,Q,P,K,U,C,hQ⟩
theorem ret2 {w:Hp}(K:HK F σ B w P L H)(hB:B n){p q:Int}(hb:Blk w n [.int .i64 p,.int .i64 q]){x y:Int}{K':Int->Int->Hp->Prop}(hK:∀w',HK F σ B w' P L H->K' x y w') :
 St1 (Addr.add ⟨n,0,none⟩ 0) (.int .i64 x) w λv3=>St1 (Addr.add ⟨n,0,none⟩ 1) (.int .i64 y) v3 λv4=>LdI .i64 (Addr.add ⟨n,0,none⟩ 0) v4 λres=>LdI .i64 (Addr.add ⟨n,0,none⟩ 1) v4 λres1=>K' res res1 v4:=
 hb.s1 aA λv3 o3 b=>b.s1 aA λv4 o4 a=>a.rI rfl (a.rI rfl (hK v4 ((K.own o3 hB).own o4 hB)))
theorem WkL (h:HH σ F L H)(ht:t<H.ths.length)(x:Int)(hx:I63 x)(hr:mget H.live x=none->∀A∈H.ars,RunsOk A)(hlen:∀g,H.ths[t]?=some g->g.hands.length<=1000)(h0:∀b,mget H.live x=some b->0<=x){R:Value->Int->Int->Hp->Prop}
 (hR:∀σ' ts',Ext F σ σ'->HH σ' (Grow F σ) {L with ts:=ts'} (U8 H t x).1->R (phV (U8 H t x).2.1) (U8 H t x).2.2.1 (U8 H t x).2.2.2 σ'):Zx.c (aW L.p) (t:Int) x σ R:=by
 refine Zx.o ?_;unfold Zx.v;refine nw (cs:=[.int .i64 0,.int .i64 0]) λv hz e hb=>?_;have K1:=(HK.start h).box e hz;refine nilP (K1.h.hd.rM rfl ⟨_,K1.h.liveM,?_⟩);refine nw (cs:=[.int .i64 0,.int .i64 0,.int .i64 0,.int .i64 0]) λv1 hz1 e1 hb1=>?_;have K2:=K1.box e1 hz1;have hbv:=e1.blk hb id;have m:σ.size≠v.size:=by omega
 refine hb1.s1 aA λv2 o2 b2=>b2.s1 aA λv3 o3 b3=>b3.s1 aA λv4 o4 b4=>b4.s1 aA λv5 o5 b5=>?_;have K5:=(((K2.own o2 (.inr rfl)).own o3 (.inr rfl)).own o4 (.inr rfl)).own o5 (.inr rfl);have E:=Ws o5 (Ws o4 (Ws o3 (Ws o2 hbv m) m) m) m;have hL:L = {L with ts:=L.ts}:=rfl;cases hm:mget H.live x with
 | none=>
  have hno:U8 H t x=(H,none,0,whyH H x):=by unfold U8;rw[hm]
  rw[hno]at hR;simp only at hR;refine ifT rfl ?_;refine Wbo (λw=>whyH H x=8/\Ext0 v5 w) (λw ⟨h8,ew⟩=>?_) λJ M=>?_
  ·rw[h8]at hR;exact ret2 (n:=σ.size) (K5.fr ew) (.inl (.inr rfl)) (ew.blk E id) λB K'=>hR B L.ts K'.e (K'.fin h)
  ·refine Wa9 K5.h x hx λv9 K=>?_;have K9:=K5.fr K;have hb9:=K.blk E id;refine ifD (λX=>?_) λhlt=>M v9 ⟨zA O,K⟩;have W:=WaJ X;obtain⟨A,hA⟩:∃A,H.ars[(YJ H.ars x).toNat]?=some A:=⟨_,gGe W.1⟩;obtain⟨Y,hY,_,hAY⟩:=K9.h.ar hA;have a:whyH H x=(match UY A x with
    | some (k,y)=>if 0<=k/\(y:Int)=x then(9:Int)else 8
    | none=>8):=by unfold whyH;rw[zB X,hA];rfl
   rw[W.2];refine nilP (K9.h.hd.rS rfl (K9.h.rA hY ?_));refine WmX hAY (hr hm A (zE hA)) x hx (λv10 k y d hf=>?_) λv10 d hf=>?_
   ·rw[hf]at a;simp only at a;rw[a]at hR M;have K10:=K9.fr d;have U:=d.blk hb9 id;refine UP (λr w=>w=v10/\r=decide (0<=k)) (λr w ⟨hw,i⟩=>?_) λJ1 D=>?_
    ·subst hw;subst i;refine UP (λr w2=>w2=w/\r=decide (0<=k/\(y:Int)=x)) (λr w2 ⟨hw,i⟩=>?_) λJ2 N=>?_
     ·subst i;rw[hw];refine ifD (λC=>?_) λC=>?_
      ·rw[zB C]at hR;exact ret2 (n:=σ.size) K10 (.inl (.inr rfl)) U λB K'=>hR B L.ts K'.e (K'.fin h)
      ·exact M w ⟨zA C,K.trans d⟩
     ·refine ifD (λC=>N _ _ ⟨rfl,?_⟩) λC=>N _ _ ⟨rfl,?_⟩
      ·by_cases hyx:(y:Int)=x
       ·rw[zW (⟨C,hyx⟩:0<=k/\(y:Int)=x),zZ.2 hyx]
       ·rw[zd (λhx=>hyx hx.2),zBC.2 hyx]
      ·rw[zd (λhx=>C hx.1)]
    ·exact ifT rfl (D _ _ ⟨rfl,rfl⟩)
   ·rw[hf]at a;simp only at a;rw[a]at M;refine UP (λr w=>w=v10/\r=false) (λr w ⟨hw,i⟩=>?_) λJ1 D=>ifF rfl (D _ _ ⟨rfl,rfl⟩);subst hw;subst i;exact JnB.intro (ifF rfl (ifF rfl (M w ⟨rfl,K.trans d⟩)))
 | some b=>
  have hb0:=h0 b hm;have hfd:U8 H t x=(if b.2.2.1<0 then({H with live:=mdel H.live x},some (.give (x/256) b.2.2.2),0,0)
   else(QV {H with live:=mdel H.live x} t b.2.2.1.toNat [x],some (.put b.2.2.1.toNat x),0,0)):=by unfold U8;rw[hm]
  rw[hfd]at hR;have hgb:(mget H.live x).getD ((0,0,0,0):Bk)=b:=by rw[hm];rfl
  rw[hgb]at b5;refine ifF rfl ?_;refine nilP (K5.h.hd.rM rfl ?_);obtain⟨hF,Z⟩:=K5.h.stepL;refine⟨_,K5.h.liveM,λv6 o6 _ hm6=>?_⟩;obtain⟨e6,h6⟩:=Z v6 _ (o6 _ rfl) hm6;have K6:=K5.to e6 h6 λb _ hb=>.inl hb;have G:=K5.keepB e6 E (.inl (.inr rfl));have s:=K5.keepB e6 b5 (.inr rfl);refine s.rI rfl (ifD (λV=>?_) λhnn=>?_)
  ·have z:b.2.2.1<0:=V;rw[zB z]at hR;refine nz aB (ar (by rw[YM O];omega) (by rw[YM O];unfold I63 at hx;omega) (s.rI rfl ?_));rw[YM O];exact ret2 (n:=σ.size) K6 (.inl (.inr rfl)) G λB K'=>hR B L.ts K'.e (K'.fin h)
  ·have P:¬b.2.2.1<0:=hnn;rw[zA P]at hR;refine s.rI rfl (nw (cs:=[.int .i64 x]) λv7 hz7 e7 hb7=>?_);have K7:=K6.box e7 hz7;have Q:=e7.blk G id;have hc7:=e7.blk s id;have S:b.2.2.1=((b.2.2.1.toNat:Nat):Int):=by omega
   have hs7:SlR ⟨some ⟨v6.size,0,none⟩,1,1⟩ 1 (Wv [x]) v7 (· = v6.size):=hb7.slR (o:=0) rfl rfl λj hj=>by rw[zG];rfl
   have hz6:=K6.e.1;rw[S];refine G4 K7.h (t:=t) ht b.2.2.1.toNat hs7 (zD _) aA (λq _ u hp=>(K7.p q hp).2.1 (.inr u)) (K7.o.1.sub λq u=>O) (λu=>K7.o.2 O) hlen λv8 ts8 e8 h8=>?_;have K8:=(K6.fr e7).toX e8 h8 λq hql u=>by
    rcases u with u|u
    ·exact u.imp id .inl
    ·refine .inr (.inr ⟨.inr O,λhB=>?_⟩);have:=(K6.b q hB).2;omega
   have hb8:=K7.keepB e8 Q (.inl (.inl (.inr rfl)));have hc8:=K7.keepB e8 hc7 (.inl (.inr rfl));refine hc8.rI (x:=((b.2.2.1.toNat:Nat):Int)) (by rw[←S];rfl) ?_;exact ret2 (n:=σ.size) K8 (.inl (.inr rfl)) hb8 λB K'=>hR B ts8 K'.e (K'.fin h)
end Go.Ar
namespace Go.Ar
open Go Go.Vc Go.Proofs
variable {σ u u':Hp}{F B P Q:Rg}{L:LayH}{H H':Hw}{t k n pb:Nat}{A:AR}{Y:Lay}{x:LayT}{g:Th}{c:Cls}{l:Li}{cs:List Value}
theorem nx0 {t' t:TypeId}{w:Value}{A B:Prop}(hne:t'≠t)(h:B):∃is:Bool,AsB (.iface t' w) t [] [] is/\If is A B:=⟨false,⟨rfl,.inr ⟨_,_,rfl,hne⟩⟩,ifF rfl h⟩
theorem nx1 {t' t:TypeId}{w:Value}{A B:Int->Prop}(hne:t'≠t)(h:B 0):∃x:Int,∃is:Bool,AsB (.iface t' w) t [.int .i64 x] [.int .i64 0] is/\If is (A x) (B x):=⟨0,false,⟨rfl,.inr ⟨_,_,rfl,hne⟩⟩,ifF rfl h⟩
theorem nx2 {t' t:TypeId}{w:Value}{A B:Int->Int->Prop}(hne:t'≠t)(h:B 0 0):∃x:Int,∃y:Int,∃is:Bool,AsB (.iface t' w) t [.int .i64 x,.int .i64 y] [.int .i64 0,.int .i64 0] is/\If is (A x y) (B x y):=⟨0,0,false,⟨rfl,.inr ⟨_,_,rfl,hne⟩⟩,ifF rfl h⟩
theorem ye0 {t:TypeId}{A B:Prop}(h:A):∃is:Bool,AsB (.iface t (.agg #[])) t [] [] is/\If is A B:=⟨true,rfl,ifT rfl h⟩
theorem ye1 {t:TypeId}{a:Int}{A B:Int->Prop}(h:A a):∃x:Int,∃is:Bool,AsB (.iface t (.agg #[.int .i64 a])) t [.int .i64 x] [.int .i64 0] is/\If is (A x) (B x):=⟨a,true,rfl,ifT rfl h⟩
theorem ye2 {t:TypeId}{a b:Int}{A B:Int->Int->Prop}(h:A a b):∃x:Int,∃y:Int,∃is:Bool,AsB (.iface t (.agg #[.int .i64 a,.int .i64 b])) t [.int .i64 x,.int .i64 y] [.int .i64 0,.int .i64 0] is/\If is (A x y) (B x y):=⟨a,b,true,rfl,ifT rfl h⟩
theorem HH.tc (h:HH u P L H)(hx:L.ts[t]?=some x)(hg:H.ths[t]?=some g){b o:Nat}(ha:L.trow.a=some ⟨b,o,none⟩){d:Nat}(hd:d<3){v:Value}(hv:(thV (x,g))[d]?=some v):cell u (Addr.add ⟨b,o+3*t,none⟩ d)=some v:=by
 obtain⟨j,m,e,i⟩:=Ur h.trowS hx hg hd hv;rw[ha]at e;cases e;rw[add_lit,show o+3*t+d=o+(3*t+d) by omega];exact i
theorem HH.stN (h:HH u P L H)(hP:∀b,P b->b<u.size)(hx:L.ts[t]?=some x)(hg:H.ths[t]?=some g)(N:Rg)(hN:∀b,b<u.size->P b->¬N b)(oN:Off N)(oN2:¬N 1) :
 ∃G D:Rg,(∀b,G b->P b)/\(∀b,D b->P b)/\(∀b,G b->¬D b)/\BtR x.h g.hands u G/\(∀u1,Ext G u u1->SlR L.trow 3 (trV L.ts H.ths) u1 D) ∧
 ∀(u1:Hp) (s:Sl) (bs:List Bt) (G':Rg),Ext G u u1->(∀b,G' b->G b\/N b)->BtR s bs u1 G'->∀{b o:Nat} (ha:L.trow.a=some ⟨b,o,none⟩) {K:aP},
  (∀u2,Ext D u1 u2->HH u2 (λb=>P b/\¬G b\/G' b/\b<u1.size) {L with ts:=L.ts.set t {x with h:=s}} {H with ths:=H.ths.set t {g with hands:=bs}}->K u2) →
  St1 (Addr.add ⟨b,o+3*t,none⟩ 1) (.slice s.a s.len s.cap) u1 K:=by
 have X:=h.trowL;have M:=Gq h.s.ts;have V:=(gSi.1 hg).1;obtain⟨G,D,z,y,hd,Q,F,_,p⟩:=h.stepN hx hg N hN oN oN2;have w:∀u1,Ext G u u1->RowR L.trow 3 (trV L.ts H.ths) u1 D:=λu1 e=>aI.keep F e λb _ d hx=>hd b hx d;refine⟨G,D,z,y,hd,Q,λu1 e=>RowR.slR (w u1 e),λu1 s bs G' e i E b o ha K J=>?_⟩;have S:o=0:=by
  rcases F.2 with⟨h0,_⟩|⟨U,_,_,ha',_⟩
  ·omega
  ·rw[ha]at ha';cases ha';rfl
 subst S;have m:∀b,G' b->¬D b:=λb d hx=>by
  rcases i b d with h1|h1
  ·exact hd b h1 hx
  ·exact hN b (hP b (y b hx)) (y b hx) h1
 refine(w u1 e).st (j:=3*t+1) O (λU r=>by rw[ha]at r;cases r;rw[add_lit];congr 1;omega) λu2 A B=>?_;have C:=(BtR.loc _ _).keep ((BtR.loc _ _).cut E) A λb _ d hx=>m b d.1 hx;obtain⟨W,R⟩:=p u2 s bs (Cut G' u1) D ((e.sub λb d=>.inl d).trans (A.sub λb d=>.inr d)) (λb d=>(i b d.1).imp .inl id) (λb d=>.inl (.inr d)) (λb d=>m b d.1) C B;refine J u2 A (R.mono (λb _ d=>?_) (λb (d:P b/\¬G b\/G' b/\b<u1.size)=>?_) λ(d:P _/\¬G _\/G' _/\_<u1.size)=>?_)
 ·rcases d with d|d|d
  ·exact .inl ⟨d.1,λhx=>d.2.2 (.inl hx)⟩
  ·exact .inr d
  ·exact .inl ⟨y b d,λhx=>hd b hx d⟩
 ·rcases d with d|d
  ·exact h.o b d.1
  ·exact(i b d.1).elim (λhx=>h.o b (z b hx)) (oN b)
 ·rcases d with d|d
  ·exact h.o2 d.1
  ·exact(i _ d.1).elim (λhx=>h.o2 (z _ hx)) oN2
theorem BtR.uncons {s:Sl}{G:Rg}{xs:List Int}{r:List Bt}(h:BtR s ((k,xs)::r) u G):∃(so:Sl) (ps:List (Nat×Sl)) (D:Rg),RowO s 2 (btsV ((k,so)::ps)) u (λb=>G b/\¬D b)/\SlR so 1 (Wv xs) u (λb=>D b/\InB so b)/\so.len<=so.cap/\BtO ps r u (λb=>D b/\¬InB so b)/\(∀b,D b->G b)/\Djp ps/\(∀x∈r,x.2≠[])/\xs≠[]:=by
 obtain⟨ps,D,d,j,F,N,g⟩:=h;cases ps with
 | nil=>have:=j.1;simp at this
 | cons p ps=>
  obtain⟨L,so⟩:=p;obtain⟨z,y,A⟩:=j.2 0 (L,so) (k,xs) rfl rfl;simp only at z y A;subst z;have e:=zAR.1 N;refine⟨so,ps,D,d,y.inB,A,⟨by have:=j.1;simpa using this,λi p x w m=>?_⟩,F,e.2,λx m=>g x (zAM _ m),g _ zAP⟩;obtain⟨E,C,J⟩:=j.2 (i+1) p x (by simpa using w) (by simpa using m);refine⟨E,aH.mono C.inB λb _ B=>⟨B.1,?_⟩,J⟩;rintro⟨a,h1,h2⟩;obtain⟨H,M,K⟩:=B.2;exact e.1 p (zE w) a H h1 M (h2.trans K.symm)
theorem BtR.drop1 {s:Sl}{G:Rg}{b:Bt}{r:List Bt}(h:BtR s (b::r) u G):BtR ⟨if s.cap=1 then s.a else s.a.map (·.add (1*2)),s.len-1,s.cap-1⟩ r u G:=by
 have p:=h.len;obtain⟨k,A⟩:=b;obtain⟨x,g,D,d,y,B,j,i,w,e,z⟩:=h.uncons;exact⟨g,D,d.from (lo:=1) (by simp at p;omega),(BtO.loc _ _).mono j λb _ m=>m.1,i,w,e⟩
theorem WoG {s so:Sl}{ps:List (Nat×Sl)}{G:Rg}(h:SlR s 2 (btsV ((k,so)::ps)) u G){K:Addr->Prop}(hK:∀a,cell u (Addr.add a 0)=some (.int .i64 (k:Int))->cell u (Addr.add a 1)=some (.slice so.a so.len so.cap)->K a):Ix s.a s.len 0 2 K:=by
 obtain⟨b,o,g,m⟩:=h.cell (j:=0) (v:=.int .i64 (k:Int)) rfl;obtain⟨p,r,d,e⟩:=h.cell (j:=1) (v:=.slice so.a so.len so.cap) rfl;have i:=h.1;rw[KC]at i;simp only[zP]at i;rw[g]at d;cases d;rw[g];refine ix O O ?_;rw[add_lit];exact hK _ (by rw[add_lit];exact m) (by rw[add_lit];exact e)
theorem BtR.app {s s2:Sl}{G Q:Rg}{bs bs2:List Bt}{e:Nat}(h:BtR s bs u G)(h2:BtR s2 bs2 u Q)(hd:∀b,G b->¬Q b)(hl:bs.length+bs2.length<=1000){K:Sl->Hp->Prop}
 (hK:∀s' u',Ext G u u'->BtR s' (bs++bs2) u' (λb=>G b\/Q b\/u.size<=b)->K s' u'):App s 2 32 e [.int .i64 0,.slice none 0 0] s2 u K:=by
 have l1:=h.len;have l2:=h2.len;obtain⟨S,D,w,H,U,J,A⟩:=h;obtain⟨E,D2,z,m,r,M,y⟩:=h2;by_cases h0:s2.len=0
 ·have X:bs2=[]:=zGJ O;subst X;refine w.app0 h0 (by
   have:s.len*32<=1000*32:=zAF (by simp at hl;omega) O;omega) (by simp at hl;omega) λW=>hK _ u (Ext.refl _ _) ?_
  rw[zy];exact⟨S,D,(RowO.loc _ _ _).mono W λb _ d=>⟨.inl d.1,d.2⟩,H,λb d=>.inl (U b d),J,A⟩
 ·have e1:(s.len+s2.len)*32<=1000*32:=zAF O O;refine((RowO.loc _ _ _).cut w).app (ys:=btsV E) rfl (by rw[KC];have:=m.1;omega) z.slR.rd Hm O O O λs' u' _ L W=>hK s' u' (L.sub λb d=>d.1.1) ?_;have hz:=L.1;have V:=H.1;refine⟨S++E,λb=>D b/\b<u.size\/D2 b/\b<u.size,?_,⟨by simp[H.1,m.1],λi p x B g=>?_⟩,λb d=>?_,zBT.2 ⟨J,M,λp B q hq a a' R Y e3=>?_⟩,λx g=>(zR.1 g).elim (A x) (y x)⟩
  ·rw[UX];refine(RowO.loc _ _ _).mono W λb _ d=>?_;rcases d with d|d
   ·exact⟨.inl d.1.1,λg=>g.elim (λg=>d.1.2 g.1) λg=>hd b d.1.1 (r b g.1)⟩
   ·exact⟨.inr (.inr d),λg=>by rcases g with g|g<;>omega⟩
  ·rcases zAN i S.length with C|C
   ·rw[ze C]at B;rw[ze O]at g;obtain⟨P,N,Z⟩:=H.2 i p x B g;exact⟨P,aH.mono (aH.keep (aH.cut N) L λb _ d g=>g.1.2 d.1) λb _ d=>.inl d,Z⟩
   ·rw[zm C]at B;rw[zm O,←V]at g;obtain⟨P,N,Z⟩:=m.2 _ p x B g;exact⟨P,aH.mono (aH.keep (aH.cut N) L λb _ d g=>hd b g.1.1 (r b d.1)) λb _ d=>.inr d,Z⟩
  ·rcases d with d|d
   ·exact .inl (U b d.1)
   ·exact .inr (.inl (r b d.1))
  ·obtain⟨i,C⟩:=zN B;obtain⟨j,J⟩:=zN hq;have hil:=(gSi.1 C).1;have hjl:=(gSi.1 J).1;have hy:bs[i]?=some (bs[i]' O):=gGe _;have F:bs2[j]?=some (bs2[j]'(by have:=m.1;omega)):=gGe _;have b1:=(H.2 i p _ C hy).2.1.blk (by simpa[Wv]using A _ (zE hy)) ⟨a,R,rfl⟩;have b2:=(m.2 j q _ J F).2.1.blk (by simpa[Wv]using y _ (zE F)) ⟨a',Y,rfl⟩;rw[e3]at b1;exact hd _ (U _ b1.1) (r _ b2.1)
theorem HK.addB (K:HK F σ B u P L H){B':Rg}(h1:∀b,B' b->σ.size<=b/\b<u.size/\¬P b):HK F σ (λb=>B b\/B' b) u P L H:=
 ⟨K.h,K.e,λb a=>⟨(K.p b a).1,λg=>g.elim (K.p b a).2.1 λd=>(h1 b d).2.2 a,(K.p b a).2.2⟩,λb a=>a.elim (K.b b) λd=>⟨(h1 b d).1,(h1 b d).2.1⟩,K.o⟩
theorem ZL (hg:H.ths[t]?=some g)(f:Th->Th):H.setT t f = {H with ths:=H.ths.set t (f g)}:=by
 unfold Hw.setT;rw[KZ hg]
theorem GE (hg:H.ths[t]?=some g):H.thr t=g:=by unfold Hw.thr;rw[zM,hg];rfl
theorem V9 (hc:H.tb[k]?=some c):H.cls k=c:=by unfold Hw.cls;rw[zM,hc];rfl
theorem Wj6 (hl:g.ls[k]?=some l):g.li k=l:=by unfold Th.li;rw[zM,hl];rfl
theorem Wij (ha:H.ars[H.own t]?=some A):H.arn t=A:=by unfold Hw.arn;rw[zM,ha];rfl
theorem own_lt (h:HS L H)(t:Nat):H.own t<H.ars.length:=zDP _ (by have:=h.a1;omega)
theorem HH.lsL (h:HH u P L H)(hx:L.ts[t]?=some x)(hg:H.ths[t]?=some g):g.ls.length=H.tb.length:=by
 obtain⟨G,_,a,_⟩:=h.stepC hx hg;exact a.len
theorem Wc1 (ha:H.ars[k]?=some A):H.setA k A=H:=by unfold Hw.setA;rw[Qj ha]
theorem WoH (l:List Nat):ints l=Wv (l.map λ(x:Nat)=>(x:Int)):=by simp[ints,Wv]
theorem Wax (f:Cls->Li->List Int×Li)(tb:List Cls)(ls:List Li):(Kb f tb ls).length<=tb.length:=by
 unfold Kb;exact zI (List.length_filterMap_le _ _) aA
theorem HH.tb40 (h:HH u P L H):H.tb.length<=40:=by
 obtain⟨x,g,d,a⟩:=h.th (t:=0) h.s.t1;obtain⟨G,_,b,_⟩:=h.stepC d a;exact b.tb1
theorem ix0 {s:Sl}{b o:Nat}(ha:s.a=some ⟨b,o,none⟩)(hl:0<s.len){K:Addr->Prop}(hK:K ⟨b,o+0,none⟩):Ix s.a s.len 0 1 K:=by
 rw[ha];exact ix (zCH _) O (by rw[add_lit];exact hK)
theorem Wn8 {s:Sl}{ps:List (Nat×Sl)}{G:Rg}(h:SlR s 2 (btsV ps) σ G)(hl:s.len<=1000000){R:Sl->Hp->Prop}(hR:∀s' σ',s'.len=s.len->Ext0 σ σ'->RowR s' 2 (btsV ps) σ' (λb=>σ.size<=b)->R s' σ'):Wp.c s σ R:=by
 refine Wp.o ?_;unfold Wp.v;exact Wai h O rfl Hm O hl hR
def WgG (H:Hw)(t:Nat):Ph->Prop
 | .take k=>k<H.tb.length/\∀y l,Ka (H.cls k) ((H.thr t).li k)=(some y,l)->I63 y
 | .transfer k _=>k<H.tb.length/\(Z6 (H.arn t) (k:Int)=0->YL (H.arn t) (k:Int)≠[])
 | .central _ _=>True
 | .grow _ _=>True
 | .fill=>∃k x xs r,(H.thr t).hands=(k,x::xs)::r/\k<H.tb.length/\I63 x/\((H.thr t).li k).os.length+xs.length<=256
 | .large m=>Z5 (H.arn t) H.sp (m:Int) 1<=1000000
 | .find x=>I63 x/\(mget H.live x=none->∀A∈H.ars,RunsOk A)/\∀b,mget H.live x=some b->0<=x
 | .put k _=>k<H.tb.length/\(H.thr t).hands≠[]
 | .back=>∃k xs r,(H.thr t).hands=(k,xs)::r/\(∀x∈xs,I63 x/\0<=YJ H.ars x)/\xs.length<=1000000
 | .give _ a=>0<=a/\a.toNat<H.ars.length/\∀A∈H.ars,∀r∈A.runs,r.1<=1000000
 | .drain=>True
def Wo7 (σ:Hp)(F:Rg)(L:LayH)(o:OutH)(R:Value->Int->Int->Hp->Prop):Prop:=∀σ' ts',Ext F σ σ'->HH σ' (Grow F σ) {L with ts:=ts'} o.1->R (phV o.2.1) o.2.2.1 o.2.2.2 σ'
end Go.Ar