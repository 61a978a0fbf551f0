/- Texts joined. -/
import Derived.Test.YtkabjcanamcbeaaGreatDoorY4
set_option linter.unusedVariables false
set_option linter.unusedSimpArgs false
namespace Go.Ar
open Go Go.Vc Go.Proofs
variable {σ:Hp}
theorem IP:∀(xs:List (Int×Int×Int)),uQ xs=true↔∀(i:Nat) a b,xs[i]?=some a->xs[i+1]?=some b->a.1<b.1
 | []=>by simp[uQ]
 | [x]=>by simp[uQ]
 | x::y::l=>by
  have ih:=IP (y::l);show(decide (x.1<y.1)&&uQ (y::l))=true↔_;rw[zF,ih,zT];constructor
  ·rintro⟨h1,h2⟩ i a b e d;cases i with
   | zero=>simp at e d;subst e;subst d;exact h1
   | succ i=>exact h2 i a b (by simpa using e) (by simpa using d)
  ·intro h;exact⟨h 0 x y rfl rfl,λi a b e d=>h (i+1) a b (by simpa using e) (by simpa using d)⟩
theorem Qr (xs:List (Int×Int×Int)):Qi xs=true↔1<=xs.length/\xs.length<=40/\(∀(i:Nat) t,xs[i]?=some t->Uv t.1 t.2.1 t.2.2=true)/\∀(i:Nat) a b,xs[i]?=some a->xs[i+1]?=some b->a.1<b.1:=by
 unfold Qi;simp only[zF,zT,IP,kN];constructor
 ·rintro⟨h1,h2,h3,h4⟩;exact⟨h1,h2,λi t d=>h3 t (zE d),h4⟩
 ·rintro⟨h1,h2,h3,h4⟩;exact⟨h1,h2,λt d=>by obtain⟨i,e⟩:=zN d;exact h3 i t e,h4⟩
theorem HL {s:Sl}{xs:List (Int×Int×Int)}(ha:gH σ s xs){R:aO}(hR:∀σ',bO σ σ'->R (Qi xs) σ'):ZG.c s σ R:=by
 refine ZG.o ?_;unfold ZG.v;have S:∀σ',bO σ σ'->¬(1<=xs.length/\xs.length<=40/\(∀(i:Nat) t,xs[i]?=some t->Uv t.1 t.2.1 t.2.2=true)/\∀(i:Nat) a b,xs[i]?=some a->xs[i+1]?=some b->a.1<b.1)->R false σ':=λσ' e hn=>by
  have:=hR σ' e;have hf:Qi xs=false:=by rw[←rm,Qr];exact hn
  rw[hf]at this;exact this
 have W:=ha.1;refine bY.intro (cI (λc1=>cJ rfl (S σ (Ext.refl _ _) λh=>O)) λc1=>?_);refine cI (λc2=>S σ (Ext.refl _ _) λh=>O) λc2=>?_;refine ZU (a:=bN) (λ(t:Int) v=>∃i:Nat,t=(i:Int)/\i<=xs.length/\bO σ v/\(∀(j:Nat) t,j<i->xs[j]?=some t->Uv t.1 t.2.1 t.2.2=true)/\∀(j:Nat) a b,j+1<i->xs[j]?=some a->xs[j+1]?=some b->a.1<b.1) (λt _=>xs.length-t.toNat)
  ⟨0,rfl,O,Ext.refl _ _,λj t h=>O,λj a b h=>O⟩ ?_
 rintro t v ⟨i,rfl,Q,e,Z,X⟩;have L:=YN ha e;refine cI (λhlt=>?_) λhge=>?_
 ·have M:i<xs.length:=by omega
  have A:xs[i]?=some xs[i]:=cM M;generalize xs[i]=r at A;obtain⟨x,y,z⟩:=r;refine UZ L A ?_;refine nw (cs:=[.int .i64 0,.int .i64 0,.int .i64 0]) λv2 hz2 e2 b2=>b2.s1 aA λv3 o3 b3=>b3.s1 aA λv4 o4 b4=>b4.s1 aA λv5 o5 H=>?_;have e5:bO v v5:=Ext.fresh (Ext.fresh (Ext.fresh e2 o3.ext λi Q=>O) o4.ext λi Q=>O) o5.ext λi Q=>by omega
  refine Jn.intro ⟨(· = v5),rfl,⟨x,λm E=>by rw[E,add_lit,H.cell];rfl,⟨y,λm E=>by rw[E,add_lit,H.cell];rfl,⟨z,λm E=>by rw[E,add_lit,H.cell];rfl,?_⟩⟩⟩⟩;refine AW x y z λv7 Y=>?_;have w:=(Ext.trans e e5).trans Y;have C:(Uv x y z=false\/∃a,0<i/\xs[i-1]?=some a/\x<=a.1)->R false v7:=λP=>S v7 w λK=>by
   rcases P with P|⟨a,J,hb1,hb2⟩
   ·have:=K.2.2.1 i _ A;simp only at this;rw[P]at this;cases this
   ·have:=K.2.2.2 (i-1) a (x,y,z) hb1 (by rw[show i-1+1=i by omega];exact A);simp only at this;omega
  cases hc:Uv x y z
  ·exact cJ rfl (cJ rfl (C (.inl hc)))
  ·have next:(∀a,0<i->xs[i-1]?=some a->a.1<x)->Ar .i64 ((i:Int)+1) λg=>(∃i:Nat,g=(i:Int)/\i<=xs.length/\bO σ v7/\(∀(j:Nat) t,j<i->xs[j]?=some t->Uv t.1 t.2.1 t.2.2=true)/\∀(j:Nat) a b,j+1<i->xs[j]?=some a->xs[j+1]?=some b->a.1<b.1)/\xs.length-g.toNat<xs.length-(i:Int).toNat:=by
    intro J;refine cA (m:=i+1) O O ⟨⟨i+1,rfl,O,w,λj t hj B=>?_,λj a b hj u d=>?_⟩,O⟩
    ·by_cases hji:j=i
     ·subst hji;rw[A]at B;cases B;exact hc
     ·exact Z j t O B
    ·by_cases hji:j+1=i
     ·subst hji;rw[A]at d;cases d;exact J a O u
     ·exact X j a b O u d
   refine cG rfl (cI (λJ=>?_) λJ=>cG rfl (next λa ke=>O))
   have p:xs[i-1]?=some (xs[i-1]' O):=cM _;generalize xs[i-1]' O=r at p;obtain⟨U,y',z'⟩:=r;have F:=YN ha w;obtain⟨b,o,g1,g2,g3,g4,g5⟩:=F.2 (i-1) U y' z' p;have V:=Y.bZ H id;refine cA (m:=i-1) O O ?_;rw[g1];refine ix O O ?_;have D:cell v7 ⟨b,o+(((i-1:Nat):Int)).toNat*3+0,none⟩=some (.int .i64 U):=by simpa using g3
   have fin:If (decide (x<=U)) (R false v7) (Ar .i64 ((i:Int)+1) λg=>(∃i:Nat,g=(i:Int)/\i<=xs.length/\bO σ v7/\(∀(j:Nat) t,j<i->xs[j]?=some t->Uv t.1 t.2.1 t.2.2=true)/\∀(j:Nat) a b,j+1<i->xs[j]?=some a->xs[j+1]?=some b->a.1<b.1)/\xs.length-g.toNat<xs.length-(i:Int).toNat):=by
    refine cI (λN=>C (.inr ⟨_,O,p,N⟩)) λhgt=>next λa _ G=>?_
    rw[p]at G;cases G;simp only;omega
   rw[add_lit b o];exact⟨V.rI rfl (dP D fin),dP D (V.rI rfl fin)⟩
 ·have:i=xs.length:=by omega
  subst this;have K:Qi xs=true:=(Qr xs).2 ⟨O,O,λi t B=>Z i t (cQ.1 B).1 B,λi a b u d=>X i a b (cQ.1 d).1 u d⟩;have:=hR v e;rw[K]at this;exact this
end Go.Ar
namespace Go.Ar
open Go Go.Vc Go.Proofs
open Go.Bu (Zf QK Zu iR)
variable {σ:Hp}{F H:Rg}{p hs:Nat}{A:AR}{sp:Sp}{Y:Lay}{T:Nat->Hp->Rg->Prop}
open Classical in
theorem _root_.Go.Vc.Sep.put {L:Type}{C C':L->Hp->Rg->Prop}{σ:Hp}{F G:Rg}(hC:∀i,dR (C i))(h:Sep C σ F)(i:L)(hd:∀b,G b->¬F b)(hj:∀j,j≠i->C' j=C j)(hi:C' i σ G)(hL:dR (C' i)):Sep C' σ λb=>F b\/G b:=by
 obtain⟨ρ,h⟩:=h;refine⟨λb=>if G b then i else ρ b,λj=>?_⟩
 by_cases hji:j=i
 ·subst hji;exact hL.mono hi λb _ d=>⟨.inr d,zB d⟩
 ·rw[hj j hji];refine(hC j).mono (h j) λb _ a=>⟨.inl a.1,?_⟩;show(if G b then i else ρ b)=j
  rw[zA λe=>hd b e a.1];exact a.2
def gI (A:AR)(Y:Lay)(T:Nat->Hp->Rg->Prop)(cs:List Value):Lb->Hp->Rg->Prop
 | .hd=>iF Y.p cs
 | i=>AC A Y T i
theorem gI.loc {cs:List Value}(hT:∀k,dR (T k)):∀i,dR (gI A Y T cs i)
 | .hd=>iF.loc _ _
 | .dD=>AC.loc (A:=A) (Y:=Y) hT .dD
 | .free=>AC.loc (A:=A) (Y:=Y) hT .free
 | .mR=>AC.loc (A:=A) (Y:=Y) hT .mR
 | .own=>AC.loc (A:=A) (Y:=Y) hT .own
 | .dH=>AC.loc (A:=A) (Y:=Y) hT .dH
 | .cL=>AC.loc (A:=A) (Y:=Y) hT .cL
 | .runs=>AC.loc (A:=A) (Y:=Y) hT .runs
 | .cC k=>AC.loc (A:=A) (Y:=Y) hT (.cC k)
 | .cE k=>AC.loc (A:=A) (Y:=Y) hT (.cE k)
theorem SE:gI A Y T (k6 Y)=AC A Y T:=by
 funext i;cases i<;>rfl
theorem Ls {cs:List Value}(hT:∀k,dR (T k))(h:Sep (gI A Y T cs) σ F)(hlen:A.cC.length<=Y.fI.length)(hl:Y.fI.length<=40){vb cp ty:Nat}(hb:bX σ vb [.pointer (some ⟨cp,0,none⟩)])(hvb:¬F vb){K:Sl->Hp->Prop}
 (hK:∀s' σ',Ext F σ σ'->Sep (gI A {Y with dH:=s',fI:=Y.fI++[cp]} T cs) σ' (Grow F σ)->K s' σ'):App Y.dH 1 8 ty [.pointer none] ⟨some ⟨vb,0,none⟩,1,1⟩ σ K:=by
 obtain⟨G,g,d,_,a⟩:=h.kh (gI.loc hT) .dH;have d:bR Y.dH 1 (eW Y.fI) σ G:=d;have m:Y.dH.len=Y.fI.length:=by have:=d.1;simp[eW]at this;omega
 refine d.app (ys:=[.pointer (some ⟨cp,0,none⟩)]) rfl rfl ?_ (by simp[dN]) aC aC nA λs' σ' p e i=>hK s' σ' (e.sub g) ?_
 ·intro j u hu;rw[add_lit,zG,hb.cell];exact hu
 refine(Sep.loc (gI.loc hT)).mono (a σ' (gI A {Y with dH:=s',fI:=Y.fI++[cp]} T cs) (Grow G σ) (λj r=>?_) e (λb hb=>hb) ?_ (gI.loc hT _)) λb _ hb=>Hb g (λb hb=>hb) b hb
 ·cases j<;>first|rfl|exact absurd rfl r|skip
  rename_i k;show kc (Y.fI++[cp])[k]? A.tb[k]? A.cC[k]?=kc Y.fI[k]? A.tb[k]? A.cC[k]?;rcases l8 k Y.fI.length with h1|h1
  ·rw[zd h1]
  ·have:A.cC[k]?=none:=zY O;rw[this]
   funext σ F
   unfold kc;cases(Y.fI++[cp])[k]?<;>cases Y.fI[k]?<;>cases A.tb[k]?<;>rfl
 ·show bR s' 1 (eW (Y.fI++[cp])) σ' (Grow G σ);have:eW (Y.fI++[cp])=eW Y.fI++[.pointer (some ⟨cp,0,none⟩)]:=by simp[eW]
  rw[this];exact i
theorem Oa (hlen:A.cE.length<=Y.gB.length)(tp:Nat)(s':Sl):cF A {Y with cL:=s',gB:=Y.gB++[tp]}=cF A Y:=by
 funext k
 unfold cF;simp only;rcases l8 k Y.gB.length with h1|h1
 ·rw[zd h1]
 ·have:A.cE[k]?=none:=zY O;rw[this]
  funext σ F
  unfold lW;cases(Y.gB++[tp])[k]?<;>cases Y.gB[k]?<;>cases A.tb[k]?<;>rfl
theorem I9 {cs:List Value}(h:Sep (gI A Y (cF A Y) cs) σ F)(hlen:A.cE.length<=Y.gB.length)(hl:Y.gB.length<=40){vb tp ty:Nat}(hb:bX σ vb [.pointer (some ⟨tp,0,none⟩)])(hvb:¬F vb){K:Sl->Hp->Prop}
 (hK:∀s' σ',Ext F σ σ'->Sep (gI A {Y with cL:=s',gB:=Y.gB++[tp]} (cF A {Y with cL:=s',gB:=Y.gB++[tp]}) cs) σ' (Grow F σ)->K s' σ'):App Y.cL 1 8 ty [.pointer none] ⟨some ⟨vb,0,none⟩,1,1⟩ σ K:=by
 have g:∀k,dR (cF A Y k):=λk=>cF.loc k;obtain⟨G,i,d,_,a⟩:=h.kh (gI.loc g) .cL;have d:bR Y.cL 1 (eW Y.gB) σ G:=d;have p:Y.cL.len=Y.gB.length:=by have:=d.1;simp[eW]at this;omega
 refine d.app (ys:=[.pointer (some ⟨tp,0,none⟩)]) rfl rfl ?_ (by simp[dN]) aC aC nA λs' σ' s e m=>hK s' σ' (e.sub i) ?_
 ·intro j u hu;rw[add_lit,zG,hb.cell];exact hu
 rw[Oa hlen];refine(Sep.loc (gI.loc g)).mono (a σ' (gI A {Y with cL:=s',gB:=Y.gB++[tp]} (cF A Y) cs) (Grow G σ) (λj r=>?_) e (λb hb=>hb) ?_ (gI.loc g _)) λb _ hb=>Hb i (λb hb=>hb) b hb
 ·cases j<;>first|rfl|exact absurd rfl r
 ·show bR s' 1 (eW (Y.gB++[tp])) σ' (Grow G σ);have:eW (Y.gB++[tp])=eW Y.gB++[.pointer (some ⟨tp,0,none⟩)]:=by simp[eW]
  rw[this];exact m
theorem Et {cs:List Value}(hT:∀k,dR (T k))(h:Sep (gI A Y T cs) σ F){i:Nat}{v:Value}(hi:i<cs.length){K:aP}(hK:∀σ',Ext F σ σ'->Sep (gI A Y T (cs.set i v)) σ' F->K σ'):dG (Addr.add ⟨Y.p,0,none⟩ i) v σ K:=by
 obtain⟨G,g,d,_,e⟩:=h.kh (gI.loc hT) .hd;have d:iF Y.p cs σ G:=d;refine d.2.s1 O λσ' o b=>hK σ' (o.ext.sub λb a=>by subst a;exact g _ d.1) ?_;rw[zG]at b;refine(Sep.loc (gI.loc hT)).mono (e σ' (gI A Y T (cs.set i v)) G (λj m=>?_) (o.ext.sub λb a=>by subst a;exact d.1) (λb a=>.inl a) ⟨d.1,b⟩ (gI.loc hT _)) λb _ a=>yH g (λb a=>a) b a;cases j<;>first|rfl|exact absurd rfl m
theorem nm {cs:List Value}(h:Sep (gI A Y T cs) σ F):bX σ Y.p cs/\F Y.p:=by
 obtain⟨G,a,b,d⟩:=h.get .hd;exact⟨d,a _ b⟩
theorem Nm {cs:List Value}{i cp tp:Nat}{c:bW}{ss:List cH}{t:fQ}{ps:List (Nat×Nat)}{Gc Gt:Rg}(h:Sep (gI A Y (cF A Y) cs) σ F)(hlc:A.cC.length=i)(hlt:A.cE.length=i)(hcp:Y.fI[i]?=some cp)(htp:Y.gB[i]?=some tp)(hc:A.tb[i]?=some c)
 (hC:fB σ Gc cp c ps ss) (hTf:iw σ Gt tp c.batch A.room t) (d1:∀b,Gc b->¬F b) (d2:∀b,Gt b->¬F b) (d3:∀b,Gc b->¬Gt b) :
 Sep (gI {A with cC:=A.cC++[ss],cE:=A.cE++[t]} Y (cF {A with cC:=A.cC++[ss],cE:=A.cE++[t]} Y) cs) σ λb=>(F b\/Gc b)\/Gt b:=by
 have m:∀k,dR (cF A Y k):=λk=>cF.loc k;have u:Sep (gI {A with cC:=A.cC++[ss]} Y (cF A Y) cs) σ λb=>F b\/Gc b:=by
  refine h.put (gI.loc m) (.cC i) d1 (λj p=>?_) ?_ (gI.loc m _)
  ·cases j<;>first|rfl|skip
   rename_i k;have g:k≠i:=λe=>p (by rw[e]);show kc Y.fI[k]? A.tb[k]? (A.cC++[ss])[k]?=kc Y.fI[k]? A.tb[k]? A.cC[k]?;rcases l8 k i with h2|h2
   ·rw[zd O]
   ·have r:(A.cC++[ss])[k]?=none:=zY (by rw[zK,uw];omega);have d:A.cC[k]?=none:=zY O;rw[r,d]
  ·show kc Y.fI[i]? A.tb[i]? (A.cC++[ss])[i]? σ Gc;rw[hcp,hc,zo O,hlc,pA];exact⟨ps,hC⟩
 refine u.put (gI.loc m) (.cE i) (λb s a=>?_) (λj p=>?_) ?_ (gI.loc (λk=>cF.loc k) _)
 ·rcases a with a|a
  ·exact d2 b s a
  ·exact d3 b a s
 ·cases j<;>first|rfl|skip
  rename_i k;have g:k≠i:=λe=>p (by rw[e]);show lW Y.gB[k]? A.tb[k]? A.room (A.cE++[t])[k]?=lW Y.gB[k]? A.tb[k]? A.room A.cE[k]?;rcases l8 k i with h2|h2
  ·rw[zd O]
  ·have r:(A.cE++[t])[k]?=none:=zY (by rw[zK,uw];omega);have d:A.cE[k]?=none:=zY O;rw[r,d]
 ·show lW Y.gB[i]? A.tb[i]? A.room (A.cE++[t])[i]? σ Gt;rw[htp,hc,zo O,hlt,pA];exact hTf
open Classical in
noncomputable def jU {L:Type}(C:L->Hp->Rg->Prop)(S:L->Prop)(i:L):Hp->Rg->Prop:=if S i then C i else yJ
theorem jU.loc {L:Type}{C:L->Hp->Rg->Prop}{S:L->Prop}(hC:∀i,dR (C i))(i:L):dR (jU C S i):=by
 unfold jU;split
 ·exact hC i
 ·exact yJ.loc
theorem jU.put {L:Type}{C:L->Hp->Rg->Prop}{S:L->Prop}{F G:Rg}(hC:∀i,dR (C i))(h:Sep (jU C S) σ F)(i:L)(hd:∀b,G b->¬F b)(hi:C i σ G):Sep (jU C λj=>S j\/j=i) σ λb=>F b\/G b:=by
 refine h.put (jU.loc hC) i hd (λj a=>?_) ?_ (jU.loc hC i)
 ·unfold jU;by_cases hS:S j
  ·rw[zB (.inl hS),zB hS]
  ·rw[zA (λh=>hS (h.resolve_right a)),zA hS]
 ·unfold jU;rw[zB (.inr rfl)];exact hi
theorem jU.all {L:Type}{C:L->Hp->Rg->Prop}{S:L->Prop}{F:Rg}(h:Sep (jU C S) σ F)(hS:∀i,S i):Sep C σ F:=by
 have:jU C S=C:=by
  funext i;unfold jU;rw[zB (hS i)]
 rw[this]at h;exact h
theorem jU.one {L:Type}{C:L->Hp->Rg->Prop}(S:L->Prop)(l:L)(h:∀i,S i->C i σ λ_=>False):Sep (jU C S) σ λ_=>False:=by
 refine⟨λ_=>l,λi=>?_⟩;have:(λ(b:Nat)=>False/\l=i)=λ_=>False:=by funext b;simp
 rw[this];unfold jU;by_cases hS:S i
 ·rw[zB hS];exact h i hS
 ·rw[zA hS];trivial
theorem Iv {tb:List bW}:∀v∈fZ tb,dN v=true:=by
 intro v hv;simp only[fZ,qX]at hv;obtain⟨c,_,a⟩:=hv;simp at a;rcases a with rfl|rfl|rfl<;>rfl
theorem UL {s:Sl}{xs:List (Int×Int×Int)}(ha:gH σ s xs)(hv:Qi xs=true){i:Nat}{c:bW}(hc:(xs.map ZW)[i]?=some c):xs[i]?=some ((c.size:Int),(c.aF:Int),(c.batch:Int))/\c.ok:=by
 rw[ze,rF]at hc;obtain⟨⟨x,y,z⟩,b,rfl⟩:=hc;obtain⟨c,a,j,e,g,d⟩:=yk (((Qr xs).1 hv).2.2.1 i _ b);simp only at e g d;rw[j,b,e,g,d];exact⟨rfl,a⟩
theorem VZ {s:Sl}{xs:List (Int×Int×Int)}(ha:gH σ s xs)(hv:Qi xs=true){R:Sl->Hp->Prop}(hR:∀s' σ',bO σ σ'->cR s' 3 (fZ (xs.map ZW)) σ' (λb=>σ.size<=b)->R s' σ'):Wc.c s σ R:=by
 refine Wc.o ?_;unfold Wc.v;have H:=(Qr xs).1 hv;have y:=ha.1;have x:0<(xs.map ZW).length:=by rw[za];omega
 have B:(xs.map ZW)[0]?=some (xs.map ZW)[0]:=cM x;obtain⟨M,d,a,_⟩:=ha.2 0 _ _ _ (UL ha hv B).1;refine cG (by rw[a];rfl) (nw (cs:=[]) λv F z L=>?_);have m:=YN ha z;refine(bR.nil v (λb=>σ.size<=b) 3 (some ⟨σ.size,0,none⟩)).app (ys:=fZ (xs.map ZW)) rfl (by rw[KD,za];omega) ?_ Iv aC aC O λs' J K G e=>hR s' J (Ext.fresh z G λi r=>r) ?_
 ·rw[a];intro j u hu;have w:=(cQ.1 hu).1;rw[KD,za]at w;have r:j/3<(xs.map ZW).length:=by rw[za];omega
  have p:(xs.map ZW)[j/3]?=some (xs.map ZW)[j/3]:=cM r;generalize (xs.map ZW)[j/3]=c at p;have g:=Hu p;obtain⟨b,o,A,_,E,D,C⟩:=m.2 (j/3) _ _ _ (UL ha hv p).1;rw[a]at A;cases A;rw[add_lit];rcases(by omega:j=3*(j/3)\/j=3*(j/3)+1\/j=3*(j/3)+2)with hj|hj|hj
  ·rw[hj]at hu;rw[g.1]at hu;cases hu;rw[show d+j=d+j/3*3 by omega];exact E
  ·rw[hj]at hu;rw[g.2.1]at hu;cases hu;rw[show d+j=d+j/3*3+1 by omega];exact D
  ·rw[hj]at hu;rw[g.2.2]at hu;cases hu;rw[show d+j=d+j/3*3+2 by omega];exact C
 ·rw[pU]at e;refine aH.mono e.gp λb _ g=>?_;rcases g with h|h
  ·exact h
  ·omega
def fH (n room:Nat)(tb:List bW):AR:={n:=n,room:=room,tb:=tb,S:=Go.Bu.iK,st:=List.replicate n 0,ow:=λ_=>0,cC:=List.replicate tb.length [],cE:=List.replicate tb.length ⟨0,[]⟩,runs:=[]}
def jJ (n room:Nat)(tb:List bW)(i:Nat):AR:={fH n room tb with cC:=List.replicate i [],cE:=List.replicate i ⟨0,[]⟩}
def lF (xs:List (Int×Int×Int))(n:Nat)(room:Int):Int:=if Qi xs then(if 32<=n/\n%16=0/\0<=room/\room<=8 then 0 else 1)else 2
def S0:Lb->Prop
 | .dH | .cL | .cC _ | .cE _=>True
 | _=>False
theorem EJ {i cp tp:Nat}{c:bW}{ss:List cH}{t:fQ}{ps:List (Nat×Nat)}{Gc Gt:Rg}{dH cL:Sl}(hpos:Y.fI.length=i/\Y.gB.length=i)
 (h:Sep (gI A {Y with dH:=dH,cL:=cL,fI:=Y.fI++[cp],gB:=Y.gB++[tp]} (cF A {Y with dH:=dH,cL:=cL,fI:=Y.fI++[cp],gB:=Y.gB++[tp]}) (k6 Y)) σ F)
 (hlc:A.cC.length=i) (hlt:A.cE.length=i) (hc:A.tb[i]?=some c) (hC:fB σ Gc cp c ps ss) (hTf:iw σ Gt tp c.batch A.room t) (d1:∀b,Gc b->¬F b) (d2:∀b,Gt b->¬F b) (d3:∀b,Gc b->¬Gt b) {K:aP}
 (hK:∀σ' Y',Ext F σ σ'->Y'.p=Y.p->Y'.hs=Y.hs->Y'.fI.length=i+1->Y'.gB.length=i+1->Sep (gI {A with cC:=A.cC++[ss],cE:=A.cE++[t]} Y' (cF {A with cC:=A.cC++[ss],cE:=A.cE++[t]} Y') (k6 Y')) σ' (λb=>(F b\/Gc b)\/Gt b)->K σ') :
 bS (some ⟨Y.p,0,none⟩) λa93=>dG (a93.add 5) (.slice dH.a dH.len dH.cap) σ λv25=>bS (some ⟨Y.p,0,none⟩) λa95=>dG (a95.add 6) (.slice cL.a cL.len cL.cap) v25 K:=by
 have s:∀k,dR (cF A {Y with dH:=dH,cL:=cL,fI:=Y.fI++[cp],gB:=Y.gB++[tp]} k):=λk=>cF.loc k;refine aG (Et (Y:={Y with dH:=dH,cL:=cL,fI:=Y.fI++[cp],gB:=Y.gB++[tp]}) s h (i:=5) (by simp[k6]) λz r x=>aG (Et (Y:={Y with dH:=dH,cL:=cL,fI:=Y.fI++[cp],gB:=Y.gB++[tp]}) s x (i:=6) (by simp[k6]) λu j w=>?_));have m:=(fB.loc (c:=c) (ps:=ps) (ss:=ss) (p:=cp)).bU ((fB.loc (c:=c) (ps:=ps) (ss:=ss) (p:=cp)).bU hC r λb _ e d=>d1 b e d) j λb _ e d=>d1 b e d;have g:=(iw.loc (p:=tp) (batch:=c.batch) (room:=A.room) (t:=t)).bU ((iw.loc (p:=tp) (batch:=c.batch) (room:=A.room) (t:=t)).bU hTf r λb _ e d=>d2 b e d) j λb _ e d=>d2 b e d;have y:=Nm (cp:=cp) (tp:=tp) w hlc hlt (by simp only;rw[zo O,hpos.1,pA];rfl) (by simp only;rw[zo O,hpos.2,pA];rfl) hc m g d1 d2 d3;exact hK u {Y with dH:=dH,cL:=cL,fI:=Y.fI++[cp],gB:=Y.gB++[tp]} (r.trans j) rfl rfl (by simp[hpos.1]) (by simp[hpos.2]) y
theorem rf {cs:List Value}{σ':Hp}(hT:∀k,dR (T k))(h:Sep (gI A Y T cs) σ F)(e:bO σ σ'):Sep (gI A Y T cs) σ' F:=(Sep.loc (gI.loc hT)).bK h e
theorem FJ {cs:List Value}(hT:∀k,dR (T k))(h:Sep (gI A Y T cs) σ F):Sep (gI A Y T cs) σ (Cut F σ):=(Sep.loc (gI.loc hT)).cut h
theorem ζ (n room:Nat)(tb:List bW)(i:Nat):({jJ n room tb i with cC:=(jJ n room tb i).cC++[[]],cE:=(jJ n room tb i).cE++[⟨0,[]⟩]}:AR)=jJ n room tb (i+1):=by
 unfold jJ;simp only[←DD]
theorem O5 (n room:Nat)(tb:List bW):jJ n room tb tb.length=fH n room tb:=rfl
theorem RZ {i cp tp:Nat}{c:bW}{ss:List cH}{t:fQ}{ps:List (Nat×Nat)}{Gc Gt:Rg}{z:Nat}(hF:∀b,F b->z<=b/\b<σ.size)(hpos:Y.fI.length=i/\Y.gB.length=i)(hi:i<40)
 (h:Sep (gI A Y (cF A Y) (k6 Y)) σ F) (hlc:A.cC.length=i) (hlt:A.cE.length=i) (hc:A.tb[i]?=some c) (hC:fB σ Gc cp c ps ss) (hTf:iw σ Gt tp c.batch A.room t) (d1:∀b,Gc b->¬F b/\z<=b/\b<σ.size) (d2:∀b,Gt b->¬F b/\z<=b/\b<σ.size) (d3:∀b,Gc b->¬Gt b) {J4:aP}
 (hK:∀σ' Y',Ext F σ σ'->Y'.p=Y.p->Y'.hs=Y.hs->Y'.fI.length=i+1->Y'.gB.length=i+1->Sep (gI {A with cC:=A.cC++[ss],cE:=A.cE++[t]} Y' (cF {A with cC:=A.cC++[ss],cE:=A.cE++[t]} Y') (k6 Y')) σ' (λb=>z<=b)->J4 σ') :
 dU σ λS=>bS (some ⟨Y.p,0,none⟩) λa80=>gP S .s (a80.add 5) λ(t82:Sl)=>bS (some ⟨Y.p,0,none⟩) λa87=>gP S .s (a87.add 6) λ(t89:Sl)=>
  (Nw (.cells #[.pointer (some ⟨cp,0,none⟩)] 178 (0,0)) σ λn84 v21=>And (S v21) <|
   (App t82 1 8 178 [.pointer none] ⟨some n84,1,1⟩ v21 λt85 v22=>And (S v22)<|Nw (.cells #[.pointer (some ⟨tp,0,none⟩)] 180 (0,0)) v22 λn91 v23=>And (S v23)<|App t89 1 8 180 [.pointer none] ⟨some n91,1,1⟩ v23 λt92 v24=>And (S v24) <|
   bS (some ⟨Y.p,0,none⟩) λa93=>dG (a93.add 5) (.slice t85.a t85.len t85.cap) v24 λv25=>bS (some ⟨Y.p,0,none⟩) λa95=>dG (a95.add 6) (.slice t92.a t92.len t92.cap) v25 λv26=>J4 v26) ∧
   (Nw (.cells #[.pointer (some ⟨tp,0,none⟩)] 180 (0,0)) v21 λn911 v27=>And (S v27)<|App t82 1 8 178 [.pointer none] ⟨some n84,1,1⟩ v27 λt851 v28=>And (S v28)<|App t89 1 8 180 [.pointer none] ⟨some n911,1,1⟩ v28 λt921 v29=>And (S v29) <|
   bS (some ⟨Y.p,0,none⟩) λa931=>dG (a931.add 5) (.slice t851.a t851.len t851.cap) v29 λv30=>bS (some ⟨Y.p,0,none⟩) λa951=>dG (a951.add 6) (.slice t921.a t921.len t921.cap) v30 λv31=>J4 v31)) ∧
  (Nw (.cells #[.pointer (some ⟨tp,0,none⟩)] 180 (0,0)) σ λn912 v32=>And (S v32)<|Nw (.cells #[.pointer (some ⟨cp,0,none⟩)] 178 (0,0)) v32 λn841 v33=>And (S v33) <|
  App t82 1 8 178 [.pointer none] ⟨some n841,1,1⟩ v33 λt852 v34=>And (S v34)<|App t89 1 8 180 [.pointer none] ⟨some n912,1,1⟩ v34 λt922 v35=>And (S v35) <|
  bS (some ⟨Y.p,0,none⟩) λa932=>dG (a932.add 5) (.slice t852.a t852.len t852.cap) v35 λv36=>bS (some ⟨Y.p,0,none⟩) λa952=>dG (a952.add 6) (.slice t922.a t922.len t922.cap) v36 λv37=>J4 v37):=by
 have E:∀k,dR (cF A Y k):=λk=>cF.loc k;have ad:=fB.loc (c:=c) (ps:=ps) (ss:=ss) (p:=cp);have Z:=iw.loc (p:=tp) (batch:=c.batch) (room:=A.room) (t:=t);refine⟨λm=>bX m Y.p (k6 Y),(nm h).1,aG ⟨Y.dH,λm hm=>by rw[add_lit,hm.cell];rfl,aG ⟨Y.cL,λm hm=>by rw[add_lit,hm.cell];rfl,?_⟩⟩⟩;have D:∀(w:Hp) (F1:Rg) (b1 b2:Nat),bO σ w->(∀b,F1 b->F b)->Sep (gI A Y (cF A Y) (k6 Y)) w F1->bX w b1 [.pointer (some ⟨cp,0,none⟩)]->bX w b2 [.pointer (some ⟨tp,0,none⟩)]->σ.size<=b1->σ.size<=b2 →
  App Y.dH 1 8 178 [.pointer none] ⟨some ⟨b1,0,none⟩,1,1⟩ w λt85 v28=>And (bX v28 Y.p (k6 Y))<|App Y.cL 1 8 180 [.pointer none] ⟨some ⟨b2,0,none⟩,1,1⟩ v28 λt92 v29=>And (bX v29 Y.p (k6 Y)) <|
   bS (some ⟨Y.p,0,none⟩) λa93=>dG (a93.add 5) (.slice t85.a t85.len t85.cap) v29 λv30=>bS (some ⟨Y.p,0,none⟩) λa95=>dG (a95.add 6) (.slice t92.a t92.len t92.cap) v30 λv31=>J4 v31:=by
  intro w F1 b1 b2 ew hF1 hw hb1 hb2 hz1 hz2;have x:∀b,F1 b->z<=b/\b<σ.size:=λb d=>hF b (hF1 b d);have hsw:=ew.1;refine Ls E hw O O hb1 (λg=>by have:=x _ g;omega) λs1 v28 J U=>?_;have P:=(nm U).1;have Q:Sep (gI A {Y with dH:=s1,fI:=Y.fI++[cp]} (cF A {Y with dH:=s1,fI:=Y.fI++[cp]}) (k6 Y)) v28 (Grow F1 w):=U;refine⟨P,?_⟩;have af:Sep (gI A {Y with dH:=s1,fI:=Y.fI++[cp]} (cF A {Y with dH:=s1,fI:=Y.fI++[cp]}) (k6 Y)) v28 (λb=>F1 b\/w.size<=b):=Q;have K:=J.bZ hb2 λg=>by have:=x _ g;omega
  have hb2lt:=hb2.lt;refine I9 af aC aC K (λg=>by
   rcases g with g|g
   ·have:=x _ g;omega
   ·omega) λs2 v29 e29 ab=>?_
  refine⟨(nm ab).1,?_⟩;have H:∀b,(F1 b\/w.size<=b)->F b\/σ.size<=b:=λb d=>by
   rcases d with d|d
   ·exact .inl (hF1 b d)
   ·exact .inr O
  have j:Ext F σ v29:=((bO.to ew).trans (J.sub hF1)).fF e29 H;have R:=ad.bU hC j λb _ d g=>(d1 b d).1 g;have V:=Z.bU hTf j λb _ d g=>(d2 b d).1 g;have hs28:=J.1;refine EJ (F:=Grow (λb=>F1 b\/w.size<=b) v28) hpos ab hlc hlt hc R V (λb d g=>?_) (λb d g=>?_) d3 λw2 Y' e2 p1 p2 p3 p4 h2=>?_
  ·have:=d1 b d;rcases g with(g|g)|g
   ·exact this.1 (hF1 b g)
   ·omega
   ·omega
  ·have:=d2 b d;rcases g with(g|g)|g
   ·exact this.1 (hF1 b g)
   ·omega
   ·omega
  ·refine hK w2 Y' (j.fF e2 λb d=>?_) p1 p2 p3 p4 ((Sep.loc (gI.loc (λk=>cF.loc k))).mono h2 λb _ d=>?_)
   ·rcases d with(d|d)|d
    ·exact .inl (hF1 b d)
    ·exact .inr O
    ·exact .inr O
   ·have hz0:z<=σ.size:=by have:=(d1 _ hC.fp);omega
    rcases d with(((d|d)|d)|d)|d
    ·exact(x b d).1
    ·omega
    ·omega
    ·exact(d1 b d).2.1
    ·exact(d2 b d).2.1
 have S0:∀{w:Hp},bO σ w->bX w Y.p (k6 Y):=λe=>e.bZ (nm h).1 id;refine⟨nw (cs:=[.pointer (some ⟨cp,0,none⟩)]) λv21 z21 u L=>⟨S0 u,?_,?_⟩,nw (cs:=[.pointer (some ⟨tp,0,none⟩)]) λv32 z32 y ag=>⟨S0 y,nw (cs:=[.pointer (some ⟨cp,0,none⟩)]) λv33 z33 C b33=>⟨S0 (Ext.trans y C),?_⟩⟩⟩
 ·-- row,box,row
  have h21:=rf E h u;refine Ls E h21 O O L (λg=>by have:=hF _ g;omega) λs1 v22 M ae=>⟨(nm ae).1,?_⟩;have X:Sep (gI A {Y with dH:=s1,fI:=Y.fI++[cp]} (cF A {Y with dH:=s1,fI:=Y.fI++[cp]}) (k6 Y)) v22 (Grow F v21):=ae;have c22:=FJ (λk=>cF.loc k) X;refine nw (cs:=[.pointer (some ⟨tp,0,none⟩)]) λv23 z23 G b23=>?_;have W:=rf (λk=>cF.loc k) c22 G;refine⟨(nm W).1,I9 W aC aC b23 (λg=>by have:=g.2;omega) λs2 v24 e24 aa=>⟨(nm aa).1,?_⟩⟩;have hs22:=M.1;have hs23:=G.1;have r:∀b,Cut (Grow F v21) v22 b->F b\/σ.size<=b:=λb d=>by
   rcases d.1 with h|h
   ·exact .inl h
   ·exact .inr O
  have j:Ext F σ v24:=((((bO.to u).trans M).lx G)).fF e24 r;have ac:=ad.bU hC j λb _ d g=>(d1 b d).1 g;have N:=Z.bU hTf j λb _ d g=>(d2 b d).1 g;refine EJ (F:=Grow (Cut (Grow F v21) v22) v23) hpos aa hlc hlt hc ac N (λb d g=>?_) (λb d g=>?_) d3 λw2 Y' e2 p1 p2 p3 p4 h2=>?_
  ·have:=d1 b d;rcases g with g|g
   ·rcases g.1 with g|g
    ·exact this.1 g
    ·omega
   ·omega
  ·have:=d2 b d;rcases g with g|g
   ·rcases g.1 with g|g
    ·exact this.1 g
    ·omega
   ·omega
  ·refine hK w2 Y' (j.fF e2 λb d=>?_) p1 p2 p3 p4 ((Sep.loc (gI.loc (λk=>cF.loc k))).mono h2 λb _ d=>?_)
   ·rcases d with d|d
    ·exact r b d
    ·exact .inr O
   ·have hz0:z<=σ.size:=by have:=(d1 _ hC.fp);omega
    rcases d with((d|d)|d)|d
    ·rcases r b d with h|h
     ·exact(hF b h).1
     ·omega
    ·omega
    ·exact(d1 b d).2.1
    ·exact(d2 b d).2.1
 ·-- box,row,row
  refine nw (cs:=[.pointer (some ⟨tp,0,none⟩)]) λv27 z27 B b27=>⟨S0 (Ext.trans u B),?_⟩;exact D v27 F σ.size v21.size (Ext.trans u B) (λb d=>d) (rf E (rf E h u) B) (B.bZ L id) b27 (zD _) O
 ·exact D v33 F v32.size σ.size (Ext.trans y C) (λb d=>d) (rf E (rf E h y) C) b33 (C.bZ ag id) O (zD _)
theorem yz {P:Hp->Rg->Prop}(hl:dR P){a:Nat}(h:P σ λb=>a<=b):P σ λb=>a<=b/\b<σ.size:=hl.mono h λb e d=>⟨d,e⟩
theorem Pj {n room:Nat}{tb:List bW}(h1:32<=n)(h2:n<=1024)(h3:n%16=0)(h4:room<=8)(h5:1<=tb.length)(h6:tb.length<=40)(h7:∀c∈tb,c.ok)(hc:Y.fI.length=tb.length)(ht:Y.gB.length=tb.length):eY (fH n room tb) Y:=
 ⟨hc,ht,by simp[fH],by simp[fH],h5,h6,h1,h2,h3,by simp[fH],h4,h7⟩
theorem WnO {s:Sl}{xs:List (Int×Int×Int)}(ha:gH σ s xs)(hS:dE σ H hs sp)(room:Int){R:Option Addr->Int->Hp->Prop}
 (h0:lF xs sp.st.length room≠0->∀σ',bO σ σ'->R none (lF xs sp.st.length room) σ')
 (h1:lF xs sp.st.length room=0->∀σ' Y,bO σ σ'->Y.hs=hs->cX σ' (λb=>σ.size<=b) Y (fH sp.st.length room.toNat (xs.map ZW)) (cF (fH sp.st.length room.toNat (xs.map ZW)) Y)->R (some ⟨Y.p,0,none⟩) 0 σ') :
 Q1.c s (some ⟨hs,0,none⟩) room σ R:=by
 refine Q1.o ?_;unfold Q1.v;have hn2:sp.st.length<=1024:=by obtain⟨q,r,l,B,h⟩:=hS;exact h.n2
 refine HL ha λv e=>?_;cases hv:Qi xs
 ·have e1:lF xs sp.st.length room=2:=by unfold lF;rw[hv];rfl
  have:=h0 (by rw[e1];decide) v e;rw[e1]at this;exact cJ rfl this
 have eE:lF xs sp.st.length room=if 32<=sp.st.length/\sp.st.length%16=0/\0<=room/\room<=8 then 0 else 1:=by unfold lF;rw[hv,zB rfl]
 refine cG rfl (Be (hS.bK e) ?_);have C:¬(32<=sp.st.length/\sp.st.length%16=0/\0<=room/\room<=8)->R none 1 v:=λhn=>by
  rw[zA hn]at eE;have:=h0 (by rw[eE];decide) v e;rw[eE]at this;exact this
 have tm:(((sp.st.length:Nat):Int).tmod 16)=((sp.st.length%16:Nat):Int):=by rw[Q9 O];simp
 refine bY.intro (cI (λc1=>bY.intro (cJ rfl (bY.intro (cJ rfl (cJ rfl (C O)))))) λc1=>nz aB ?_);rw[tm,CO];refine bY.intro (cU (λc2=>bY.intro (cJ rfl (cJ rfl (C (λh=>by have:=h.2.1;simp[this]at c2))))) λc2=>?_);have ag:sp.st.length%16=0:=by simpa using c2
 refine bY.intro (cI (λc3=>cJ rfl (C O)) λc3=>cI (λc4=>C O) λc4=>?_);obtain⟨W,rfl⟩:=zk (show 0<=room by omega);rw[zB O]at eE;have h1:=h1 eE;simp only[dC]at h1;have hva:=(Qr xs).1 hv;have M:=YN ha e;have hn1:32<=sp.st.length:=by omega
 generalize sp.st.length=n at *;have hlen:s.len=(xs.map ZW).length:=by rw[za];exact ha.1
 have X:∀{σ':Hp} {i:Nat} {c:bW},gH σ' s xs->(xs.map ZW)[i]?=some c->xs[i]?=some ((c.size:Int),(c.aF:Int),(c.batch:Int))/\c.ok:=λh S=>UL h hv S;have J:1<=(xs.map ZW).length/\(xs.map ZW).length<=40:=by rw[za];omega
 refine VZ M hv λdD v5 e5 htab=>Sh λU op e6 hop hP=>tz λA z7 e7 hm=>?_;generalize htbd:xs.map ZW=tb at *;refine nw (cs:=[.slice dD.a dD.len dD.cap,.pointer (some ⟨hs,0,none⟩),.pointer none,.pointer none,.pointer (some ⟨op,0,none⟩),.slice none 0 0,.slice none 0 0,.map (some U.size)]) λv8 z8 e8 b8=>?_;refine Go.Bu.tG _ (λg=>absurd ⟨O,O⟩ g) λn' hn' _ _ v9 sb ms e9 hB hfp=>?_;have hnn:n=n':=by omega
 subst hnn;have b9:=e9.bZ b8 id;refine aG (b9.s1 aA λae fV b10=>RL O O ag λN tp tq K htp htq hTk=>aG ((K.bZ b10 id).s1 aA λv12 P b12=>?_));have s5:=e5.1;have s6:=e6.1;have s9:=e9.1;have s10:=fV.1;have s11:=K.1;have s12:=P.1;have hb8:=b8.lt;have x9:Ext (· = A.size) v9 v12:=(fV.ext.trans (bO.to K)).trans P.ext;have x5:Ext (· = A.size) v5 v12:=(bO.to (Ext.trans (Ext.trans (Ext.trans e6 e7) e8) e9)).trans x9;have x6:Ext (· = A.size) U v12:=(bO.to (Ext.trans (Ext.trans e7 e8) e9)).trans x9;have x7:Ext (· = A.size) A v12:=(bO.to (Ext.trans e8 e9)).trans x9;have x11:Ext (· = A.size) N v12:=P.ext;have p1:=aH.bU (yz aH htab) x5 λb _ g d=>by omega
 have p2:=(jB.loc (p:=op) (ow:=λ_=>0)).bU (yz jB.loc hP) x6 λb _ g d=>by omega
 have p3:dL v12 U.size .i64 bN []:=x7.gL (hm _ _) O;have p5:s7 v8.size n Go.Bu.iK v12 (λb=>v8.size<=b/\b<v9.size):=(s7.loc _ _ _).bU (yz (s7.loc _ _ _) ⟨sb,ms,hB,hfp⟩) x9 λb _ g d=>by omega
 have p6:mX tp (List.replicate n 0) v12 (λb=>ae.size<=b/\b<N.size):=(mX.loc _ _).bU (yz (mX.loc _ _) ⟨tq,hTk,htp,htq⟩) x11 λb _ g d=>by omega
 let Y0:Lay:={p:=A.size,hs:=hs,fr:=v8.size,tr:=tp,op:=op,rn:=U.size,dD:=dD,dH:=⟨none,0,0⟩,cL:=⟨none,0,0⟩,fI:=[],gB:=[]}
 have ac:bX v12 A.size (k6 Y0):=b12
 let Cf:=gI (jJ n W tb 0) Y0 (cF (jJ n W tb 0) Y0) (k6 Y0)
 have u:∀i,dR (Cf i):=gI.loc λk=>cF.loc k;have q0:Sep (jU Cf S0) v12 λ_=>False:=jU.one S0 .hd λi V=>by
  cases i<;>first|exact V.elim|exact bR.nil _ _ _ _|exact trivial
 have q1:=jU.put u q0 .dD (G:=λb=>v.size<=b/\b<v5.size) (λb g d=>d) p1;have q2:=jU.put u q1 .own (G:=λb=>v5.size<=b/\b<U.size) (λb g d=>by
  rcases d with d|d
  ·exact d
  ·omega) p2
 have q3:=jU.put u q2 .runs (G:=λb=>b=U.size) (λb g d=>by
  rcases d with(d|d)|d
  ·exact d
  ·omega
  ·omega) ⟨rfl,p3⟩
 have q4:=jU.put u q3 .hd (G:=λb=>b=A.size) (λb g d=>by
  rcases d with((d|d)|d)|d
  ·exact d
  ·omega
  ·omega
  ·omega) ⟨rfl,ac⟩
 have q5:=jU.put u q4 .free (G:=λb=>v8.size<=b/\b<v9.size) (λb g d=>by
  rcases d with(((d|d)|d)|d)|d
  ·exact d
  ·omega
  ·omega
  ·omega
  ·omega) p5
 have q6:=jU.put u q5 .mR (G:=λb=>ae.size<=b/\b<N.size) (λb g d=>by
  rcases d with((((d|d)|d)|d)|d)|d
  ·exact d
  ·omega
  ·omega
  ·omega
  ·omega
  ·omega) p6
 have q7:Sep Cf v12 λb=>v.size<=b:=by
  refine(Sep.loc u).mono (jU.all q6 λi=>?_) λb _ d=>?_
  ·cases i<;>simp[S0]
  ·rcases d with(((((d|d)|d)|d)|d)|d)|d
   ·exact d.elim
   ·omega
   ·omega
   ·omega
   ·omega
   ·omega
   ·omega
 have e12:bO v v12:=Ext.fresh e5 x5 λi V=>by omega
 have szv:=e.1;refine ZU (a:=bN) (λ(t:Int) w=>∃(i:Nat) (Y:Lay),t=(i:Int)/\i<=tb.length/\Y.p=A.size/\Y.hs=hs/\Y.fI.length=i/\Y.gB.length=i/\bO v w/\Sep (gI (jJ n W tb i) Y (cF (jJ n W tb i) Y) (k6 Y)) w (λb=>v.size<=b)) (λt _=>tb.length-t.toNat)
  ⟨0,Y0,rfl,O,rfl,rfl,rfl,rfl,e12,q7⟩ ?_
 rintro t w ⟨i,Y,rfl,V,hYp,af,ab,ah,ew,y⟩;refine cI (λhlt=>?_) λhge=>?_
 ·have hi':i<tb.length:=by omega
  have S:tb[i]?=some tb[i]:=cM hi';generalize tb[i]=c at S;have Z:=YN M ew;obtain⟨hxi,ad⟩:=X Z S;refine UZ Z hxi ?_;refine nw (cs:=[.int .i64 0,.int .i64 0,.int .i64 0]) λv14 hz14 e14 b14=>b14.s1 aA λv15 o15 b15=>b15.s1 aA λv16 o16 b16=>b16.s1 aA λv17 o17 b17=>?_;have Q:bO w v17:=Ext.fresh (Ext.fresh (Ext.fresh e14 o15.ext λi V=>O) o16.ext λi V=>O) o17.ext λi V=>by omega
  have x:bX v17 w.size [.int .i64 (c.size:Int),.int .i64 (c.aF:Int),.int .i64 (c.batch:Int)]:=b17;refine x.rI rfl (x.rI rfl (x.rI rfl (Ss ad λv18 cp E hcp1 hcp2 hCe=>?_)));have b18:=E.bZ x id;obtain⟨_,_,_,_,_,_,aa,ai⟩:=id ad;refine b18.rI rfl (NP aa ai O λv19 tp2 D htp1 htp2 hTf=>Jn.intro ?_);have s14:=Q.1;have s18:=E.1;have s19:=D.1;have sw:=ew.1;have hT:∀k,dR (cF (jJ n W tb i) Y k):=λk=>cF.loc k;have h19:=rf hT (rf hT (rf hT (FJ hT y) Q) E) D;have L:=hCe.bK D;rw[←hYp];refine RZ (F:=Cut (λb=>v.size<=b) w) (z:=v.size) (ss:=[]) (t:=⟨0,[]⟩) (λb g=>⟨g.1,by have:=g.2;omega⟩) ⟨ab,ah⟩ O h19 (by simp[jJ]) (by simp[jJ]) S L hTf (λb g=>?_) (λb g=>?_) (λb g hb2=>O) λw2 Y' e2 y1 y2 y3 y4 h2=>?_
  ·subst g;exact⟨λd=>by have:=d.2;omega,O,O⟩
  ·subst g;exact⟨λd=>by have:=d.2;omega,O,O⟩
  ·rw[ζ]at h2;exact cA (m:=i+1) O O ⟨⟨i+1,Y',rfl,O,y1,y2.trans af,y3,y4,Ext.fresh (Ext.trans (Ext.trans (Ext.trans ew Q) E) D) e2 λb g=>g.1,h2⟩,O⟩
 ·have:i=tb.length:=by omega
  subst this;rw[O5,SE]at y;have hl:eY (fH n W tb) Y:=Pj hn1 hn2 ag O J.1 J.2 (λc S=>by
   obtain⟨j,hj⟩:=zN S;exact(X M hj).2) ab ah
  have:=h1 w Y (Ext.trans e ew) af ⟨hl,λk=>cF.loc k,(Sep.loc (AC.loc λk=>cF.loc k)).mono y λb _ g=>zI szv g⟩;rw[hYp]at this;exact this
end Go.Ar
namespace Go.Vc
open Go
variable {σ:Hp}{F:Rg}{s:Sl}{sz:Nat}{xs:List Value}
def dM (s:Sl)(sz:Nat)(xs:List Value):Hp->Rg->Prop:=λh F=>xs.length=s.len*sz/\(s.len=0/\s.cap=0\/∃b o cs,F b/\s.a=some ⟨b,o,none⟩/\bX h b cs/\s.len<=s.cap/\cs.length=o+s.cap*sz/\(cs.drop o).take xs.length=xs)
theorem dM.loc (s:Sl)(sz:Nat)(xs:List Value):dR (dM s sz xs):=λσ g F G h d a=>by
 refine⟨h.1,h.2.imp id ?_⟩;rintro⟨b,o,cs,hq,ha,⟨e,he⟩,r⟩;have:=a b (bX.lt ⟨e,he⟩) hq;exact⟨b,o,cs,this.1,ha,⟨e,this.2.trans he⟩,r⟩
theorem dM.nil (h:Hp)(F:Rg)(sz:Nat)(a:Option Addr):dM ⟨a,0,0⟩ sz [] h F:=⟨by simp,.inl ⟨rfl,rfl⟩⟩
theorem bR.o (h:bR s sz xs σ F):dM s sz xs σ F:=⟨h.1,h.2.imp id λ⟨b,j,e,d,i,a,m,g⟩=>⟨b,0,j,e,d,i,a,O,by simpa using g⟩⟩
theorem dM.gp (h:dM s sz xs σ F):cR s sz xs σ F:=by
 refine⟨h.1,?_⟩;rcases h.2 with⟨hl,_⟩|⟨b,o,cs,hq,ha,hb,_,_,ht⟩
 ·left;have:=h.1;rw[hl]at this;simpa using this
 ·refine .inr ⟨b,o,cs,hq,ha,hb.q,λj a=>?_⟩;rw[←ht,zX,zp,zB a]
theorem dM.cap (h:dM s sz xs σ F):s.len<=s.cap:=by
 rcases h.2 with⟨q1,q2⟩|⟨_,_,_,_,_,_,q,_⟩
 ·omega
 ·exact q
theorem dM.app {x:Sl}{bytes e:Nat}{zs ys:List Value}{K:Sl->Hp->Prop}(ho:dM s sz xs σ F)(hz:zs.length=sz)
 (hy:ys.length=x.len*sz) (hr:Rd σ x.a ys) (h1:∀v∈ys,dN v=true) (hb:(s.len+x.len)*bytes<=2^46) (hc:s.len+x.len<=2^62)
 (hx:0<x.len) (hK:∀s' h',s'.len=s.len+x.len->Ext F σ h'->dM s' sz (xs++ys) h' (Grow F σ)->K s' h'):App s sz bytes e zs x σ K:=by
 refine⟨xs,ys,ho.1,hy,ho.gp.rd,hr,h1,hb,hc,λg=>?_,λr c p=>?_⟩
 ·rcases ho.2 with⟨hl,hcap⟩|⟨b,o,cs,hQ,ha,hk,hle,hcl,ht⟩
  ·omega
  ·rw[ha];simp only;rw[add_lit];have u:(s.len+x.len)*sz<=s.cap*sz:=lN _ g;rw[zl]at u;have d:=ho.1;refine V7 hk O λh' i m=>hK _ h' rfl (Ext.eR i hQ) ⟨?_,.inr ⟨b,o,_,.inl hQ,rfl,m,g,?_,?_⟩⟩
   ·simp[d,hy,zl]
   ·simp;omega
   ·rw[zK,d,zt];have w:(cs.take (o+s.len*sz)++ys++cs.drop (o+s.len*sz+ys.length)).drop o=(cs.drop o).take (s.len*sz)++(ys++cs.drop (o+s.len*sz+ys.length)):=by
     rw[km,List.drop_append_of_le_length (by rw[zO];omega),List.drop_take]
     congr 2;omega
    have j:(cs.drop o).take (s.len*sz)=xs:=by rw[←d];exact ht
    rw[w,j,←km,qb aE,mV aE]
 ·refine hK _ _ rfl (Ext.push _ _ _) ⟨by simp[ho.1,hy,zl],.inr ⟨σ.size,0,xs++ys++(List.replicate (c-(s.len+x.len)) zs).flatten,.inr (zD _),rfl,⟨e,by simp⟩,p,?_,?_⟩⟩
  ·simp only[zK,vA,sM,vJ,ho.1,hy,hz,←zl];rw[zG];congr 1;omega
  ·rw[List.drop_zero,qb aA,mV aA]
theorem dM.CD {x:Sl}{bytes e:Nat}{zs:List Value}{K:Sl->Hp->Prop}(ho:dM s sz xs σ F)(hx:x.len=0)(hb:s.len*bytes<=2^46)(hc:s.len<=2^62)(hK:dM ⟨s.a,s.len,s.cap⟩ sz xs σ F->K ⟨s.a,s.len,s.cap⟩ σ):App s sz bytes e zs x σ K:=by
 have d:=ho.cap;refine⟨xs,[],ho.1,by simp[hx],ho.gp.rd,by cases x.a<;>simp[Rd],by simp,by rw[hx];exact hb,O,λg=>?_,λb=>absurd O b⟩
 rw[hx];have:=hK ho;cases ha:s.a<;>(rw[ha]at this;exact this)
theorem dM.from (h:dM s sz xs σ F){lo:Nat}(h1:lo<=s.len):dM ⟨if s.cap=lo then s.a else s.a.map (·.add (lo*sz)),s.len-lo,s.cap-lo⟩ sz (xs.drop (lo*sz)) σ F:=by
 have d:=h.1;refine⟨by rw[zu,d,Nat.sub_mul],?_⟩;rcases h.2 with⟨q1,q2⟩|⟨b,o,cs,hq,ha,hb,hle,hcl,ht⟩
 ·left;simp only;omega
 ·by_cases hm:s.cap=lo
  ·left;simp only;omega
  ·refine .inr ⟨b,o+lo*sz,cs,hq,by simp only[zA hm,ha,zf,add_lit],hb,by simp only;omega,?_,?_⟩
   ·have:lo*sz<=s.cap*sz:=lN _ O;rw[hcl,Nat.sub_mul];omega
   ·rw[zu]
    conv=>rhs;rw[←ht]
    rw[List.drop_take,List.drop_drop]
end Go.Vc
namespace Go.Ar
open Go Go.Vc Go.Proofs
variable {σ:Hp}{F G:Rg}{Y:gX}{tb:List bW}{bud:Nat}{ls:List Li}{b k:Nat}{l:Li}{c:bW}
theorem TG {s:Sl}{xs:List (Int×Int×Int)}(ha:gH σ s xs)(dB:Int){R:Option Addr->Int->Hp->Prop}(h0:Qi xs=false->∀σ',bO σ σ'->R none 2 σ')
 (h1:Qi xs=true->¬(0<=dB/\dB<=65536)->∀σ',bO σ σ'->R none 1 σ')
 (h2:Qi xs=true->0<=dB->dB<=65536->∀σ' Y,bO σ σ'->eD σ' (λq=>σ.size<=q) Y (xs.map ZW) dB.toNat (List.replicate (xs.map ZW).length iv)->R (some ⟨Y.p,0,none⟩) 0 σ') :
 QZ.c s dB σ R:=by
 refine QZ.o ?_;unfold QZ.v;refine HL ha λv e=>?_;cases hv:Qi xs
 ·exact cJ rfl (h0 hv v e)
 refine cG rfl (bY.intro (cI (λD=>cJ rfl (h1 hv O v e)) λD=>cI (λA=>h1 hv O v e) λA=>?_));have d:=YN ha e;have z:=(Qr xs).1 hv;refine VZ d hv λdD b w g=>tz λj J u y=>nw (cs:=[.slice dD.a dD.len dD.cap,.int .i64 dB,.map (some b.size)]) λv3 H m E=>?_;have s1:=w.1;have s0:=e.1;refine h2 hv O O v3 ⟨j.size,b.size,dD,[]⟩ (((e.trans w).trans u).trans m) ⟨by rw[za];omega,λc C=>?_,by simp,by simp,?_⟩
 ·obtain⟨i,x⟩:=zN C;exact(UL d hv x).2
 ·refine⟨λq=>if q=j.size then .hd else if q=b.size then .mp else .dD,λi=>?_⟩
  cases i with
  | hd=>
   refine⟨⟨by show σ.size<=j.size;omega,by simp⟩,?_⟩;have:((dB.toNat:Nat):Int)=dB:=by omega
   simp only[DX,this];exact E
  | mp=>
   refine⟨⟨by show σ.size<=b.size;omega,?_⟩,m.gL (y .i64 .p) id⟩;show(if b.size=j.size then sT.hd else if b.size=b.size then sT.mp else sT.dD)=.mp
   rw[zA O,zB rfl]
  | dD=>
   have B:=aH.bK (aH.bK (aH.mono g (G:=λq=>v.size<=q/\q<b.size) λq r F=>⟨F,r⟩) u) m;refine aH.mono B λq _ r=>⟨O,?_⟩;show(if q=j.size then sT.hd else if q=b.size then sT.mp else sT.dD)=.dD
   rw[zA O,zA O]
  | li k=>
   simp only[CC,pJ,jh,List.find?_nil,Option.map_none];cases hk:(List.replicate (xs.map ZW).length iv)[k]? with
   | none=>trivial
   | some l=>simp only[nk]at hk;split at hk<;>simp_all
def la (f:Nat->Nat)(l:List (Int×Option Addr)):Nat:=(l.map λx=>f x.1.toNat).sum
theorem I4 (f:Nat->Nat):∀{l:List (Int×Option Addr)} {n:Int} {x:Option Addr},(l.map (·.1)).Nodup->(n,x)∈l->la f l=f n.toNat+la f (l.filter λy=>!(y.1==n))
 | [],_,_,_,h=>by simp at h
 | y::l,n,x,hn,h=>by
  simp only[zJ,zq]at hn;rcases zQ.1 h with h1|h1
  ·subst h1;have:l.filter (λy=>!(y.1==n))=l:=by
    rw[nT];intro z hz;have:z.1≠n:=λe=>hn.1 (zC.2 ⟨z,hz,e⟩);simpa using this
   rw[uo aA,this];simp[la]
  ·have a:y.1≠n:=λe=>hn.1 (zC.2 ⟨_,h1,e.symm⟩);rw[tj (by simpa using a)];have:=I4 f hn.2 h1;simp only[la,zJ,zj]at *;omega
theorem Ta (n a v:Nat):((List.range n).map λj=>if j=a then v else 0).sum=if a<n then v else 0:=by
 induction n with
 | zero=>simp
 | succ n ih=>
  rw[j7,zr,pR,ih];by_cases h:a=n
  ·subst h;simp
  ·by_cases h2:a<n
   ·rw[zB h2,zB O];simp[Ne.symm h]
   ·rw[zA h2,zA O];simp[Ne.symm h]
theorem Nc (l:List Nat)(f g:Nat->Nat):(l.map λj=>f j+g j).sum=(l.map f).sum+(l.map g).sum:=by
 induction l with
 | nil=>rfl
 | cons x l ih=>simp only[zJ,zj,ih];omega
theorem Ex (f:Nat->Nat)(n:Nat):∀(ps:List (Nat×Nat)),(ps.map (·.1)).Nodup->(∀x∈ps,x.1<n)->(ps.map λx=>f x.1).sum=((List.range n).map λj=>if j∈ps.map (·.1)then f j else 0).sum
 | [],_,_=>by
  have:((List.range n).map λj=>if j∈([]:List (Nat×Nat)).map (·.1)then f j else 0)=(List.range n).map λ_=>0:=by simp
  rw[this]
  induction n with
  | zero=>rfl
  | succ n a=>rw[j7,zr,pR];simp at *;exact a
 | x::ps,hn,hl=>by
  simp only[zJ,zq]at hn;have a:=Ex f n ps hn.2 λy b=>hl y (by simp[b]);rw[zJ,zj,a];have e:((List.range n).map λj=>if j∈(x::ps).map (·.1)then f j else 0)=(List.range n).map λj=>(if j=x.1 then f x.1 else 0)+(if j∈ps.map (·.1)then f j else 0):=by
   apply zw;intro j _;by_cases hj:j=x.1
   ·subst hj;rw[zB aA,zB rfl,zA hn.1];rfl
   ·rw[zA hj,zG];by_cases hm:j∈ps.map (·.1)
    ·rw[zB hm,zB (by simp only[zJ,zQ];exact .inr hm)]
    ·rw[zA hm,zA (by simp only[zJ,zQ,not_or];exact⟨hj,hm⟩)]
  rw[e,Nc,Ta,zB (hl x aA)]
def qj (tb:List bW)(ls:List Li)(k:Nat):Nat:=match tb[k]?,ls[k]? with
 | some c,some l=>c.size*l.os.length
 | _,_=>0
theorem Jw:∀(tb:List bW) (ls:List Li),ls.length=tb.length->Qt tb ls=((List.range tb.length).map (qj tb ls)).sum
 | [],[],_=>rfl
 | c::tb,l::ls,h=>by
  have ih:=Jw tb ls (by simpa using h);simp only[Qt]at ih;simp only[Qt,CQ,zJ,zj,zP,ih,zv,zm];rfl
 | [],_::_,h=>by simp at h
 | _::_,[],h=>by simp at h
theorem eD.nil (h:eD σ F Y tb bud ls)(hf:jh Y.ps k=none)(hl:ls[k]?=some l):l=iv:=by
 obtain⟨G,_,a⟩:=h.sep.get (.li k);simp only[CC,pJ,hf,hl]at a;exact a
theorem eD.vW (h:eD σ F Y tb bud ls):(Y.ps.map (·.1)).Nodup:=by
 have:=h.map.nodup;have e:(kH Y.ps).map (·.1)=(Y.ps.map (·.1)).map λ(n:Nat)=>(n:Int):=by simp[kH]
 rw[e]at this;exact List.Pairwise.of_map (λ(n:Nat)=>(n:Int)) (λa b d e=>d (by rw[e])) this
theorem eD.bytes (h:eD σ F Y tb bud ls):la (qj tb ls) (kH Y.ps)=Qt tb ls:=by
 have i:la (qj tb ls) (kH Y.ps)=(Y.ps.map λx=>qj tb ls x.1).sum:=by simp[la,kH,Function.comp_def]
 rw[i,Ex _ tb.length _ h.vW h.keys,Jw _ _ h.len]
 congr 1
 apply zw;intro j hj;have a:=zU.1 hj;by_cases hm:j∈Y.ps.map (·.1)
 ·rw[zB hm]
 ·rw[zA hm];have g:jh Y.ps j=none:=by
   unfold jh;simp only[rq,n4,zZ];exact λx d e=>hm (zC.2 ⟨x,d,e⟩)
  have b:ls[j]?=some (ls[j]'(by rw[h.len];exact a)):=cM _;have:=h.nil g b;unfold qj;rw[cM a,b,this];rfl
theorem Fh:∀(tb:List bW) (ls:List Li),(∀c∈tb,c.ok)->(∀l∈ls,fR l)->Qt tb ls<=tb.length*131072
 | [],_,_,_=>by simp[Qt]
 | _::_,[],_,_=>by simp[Qt]
 | c::tb,l::ls,h1,h2=>by
  have ih:=Fh tb ls (λc a=>h1 c (by simp[a])) (λl b=>h2 l (by simp[b]));simp only[Qt]at ih;simp only[Qt,CQ,zJ,zj,zP];have a:=h1 c aA;unfold bW.ok at a;have d:=(h2 l aA).many;have e:c.size*l.os.length<=512*256:=kL O d;omega
theorem EY (h:eD σ F Y tb bud ls)(hok:∀l∈ls,fR l):Qt tb ls<=5242880:=by
 have b:=Fh tb ls h.ok hok;have a:=h.nM;omega
theorem eD.EV (h:eD σ F Y tb bud ls):∀l∈ls,fR l:=by
 intro l hl;obtain⟨k,a⟩:=zN hl;cases hf:jh Y.ps k with
 | none=>rw[h.nil hf a];exact fR.nil
 | some b=>
  obtain⟨G,_,d,_⟩:=h.xB hf a;exact d.2.1
theorem BF (h:eD σ F Y tb bud ls){R:aN}(hR:∀σ',bO σ σ'->R ((Qt tb ls:Nat):Int) σ'):Xr.c (aW Y.p) σ R:=by
 refine Xr.o ?_;unfold Xr.v;have aa:=EY h h.EV;have hT:=h.bytes;refine Hk h (cG rfl (aG (h.hd.rM rfl ?_)));refine sK (a:=bN) h.map (λg (z:Int) v=>∃n:Nat,z=(n:Int)/\n+la (qj tb ls) g=Qt tb ls/\(∀e∈g,e∈kH Y.ps)/\(g.map (·.1)).Nodup/\bO σ v) ?_ ?_ ?_
 ·intro v hz e;exact⟨0,rfl,by rw[hT];omega,λe he=>he,h.map.nodup,e⟩
 ·rintro z v ⟨n,rfl,E,_,_,e⟩;simp only[la,oY,List.sum_nil,zt]at E;rw[E];exact hR v e
 ·rintro g n x z v v' J ⟨m,rfl,E,u,A,e⟩ U ho hlt Z;have W:bO σ v':=e.only ho (.inr (zD _));have P:=h.bK W;have j:=u _ U;simp only[kH,zC,Prod.mk.injEq]at j;obtain⟨⟨k,b⟩,C,D,w⟩:=j;simp only at D w;subst D;subst w;have H:=h.keys _ C;simp only at H;have L:tb[k]?=some tb[k]:=cM H;have N:ls[k]?=some (ls[k]'(by rw[h.len];exact H)):=cM _;generalize tb[k]=c at L;generalize (ls[k]'(by rw[h.len];exact H))=l at N;have M:jh Y.ps k=some b:=EG h.map.nodup C;obtain⟨G,hG,hL,_⟩:=P.xB M N;obtain⟨_,hok,s,S,K,X⟩:=hL;have Q:s.len=l.os.length:=by have:=K.1;simp[Wv]at this;omega
  have hb:qj tb ls k=c.size*l.os.length:=by unfold qj;rw[L,N]
  have r:=I4 (qj tb ls) A U;simp only[dC]at r;refine aG (P.hd.rS rfl (uE P.jI L (d:=0) O ?_));simp only[zS];refine aG (S.rS rfl ?_);have B:m+c.size*l.os.length+la (qj tb ls) (List.filter (λy=>!(y.1==(k:Int))) g)=Qt tb ls:=by
   have V:=r;rw[hb]at V;rw[←E,V,qn]
  refine cA (m:=c.size*l.os.length) (by simp only[Q];simp) O (cA (m:=m+c.size*l.os.length) O O (Z _ v' rfl rfl ⟨_,rfl,B,λy hy=>u y (zH.1 hy).1,A.sublist (List.filter_sublist.map _),W⟩))
theorem Mc (h:eD σ F Y tb bud ls){R:aO}(hR:∀σ',bO σ σ'->R (decide (bud<Qt tb ls)) σ'):Yp.c (aW Y.p) σ R:=by
 refine Yp.o ?_;unfold Yp.v;have e:decide (((Qt tb ls:Nat):Int)>(bud:Int))=decide (bud<Qt tb ls):=by rw[decide_eq_decide];omega
 refine Jn.intro (Hk h (cJ rfl (aG ⟨BF h λσ' a=>(a.bZ h.hd id).rI rfl ?_,h.hd.rI rfl (BF h λσ' a=>?_)⟩)))
 ·rw[e];exact hR σ' a
 ·rw[e];exact hR σ' a
def Dw (f:bW->Li->List Int×Li)(fn:Nat):Prop:=∀{σ:Hp} {G:Rg} {b:Nat} {l:Li} {c:bW},jv b l σ G->c.ok->∀{R:Sl->Hp->Prop},
 (∀s z σ',Ext (· = b) σ σ'->σ.size<=z->bR s 1 (Wv (f c l).1) σ' (λq=>σ.size<=q/\q<z)->jv b (f c l).2 σ' (λq=>q=b\/z<=q)->R s σ') →
 VN Tryz.prog ⟨fn,#[],#[]⟩ [.pointer (some ⟨b,0,none⟩),.int .i64 (c.batch:Int)] [.one .s] σ R
theorem Win:Dw ZX 223:=by
 intro σ G b l c h hc R hR;refine GF (all := #[.pointer (some ⟨b,0,none⟩),.int .i64 (c.batch:Int)]) (by kernel_rfl) aA ?_;refine YH.o ?_;unfold YH.v;have i:=h;obtain⟨_,j,s,a,e,g⟩:=h;have d:s.len=l.os.length:=by have:=e.1;simp[Wv]at this;omega
 refine aG (a.rS rfl ?_);simp only[d];exact Gu i (zD _) hR
theorem Pa:Dw KH 221:=by
 intro σ G b l c h hc R hR;refine GF (all := #[.pointer (some ⟨b,0,none⟩),.int .i64 (c.batch:Int)]) (by kernel_rfl) aA ?_;refine Xy.o ?_;unfold Xy.v;have U:=h;obtain⟨_,g,s,w,N,K⟩:=h;have o1:=g.low;have o2:=g.many;have o3:=g.lim;have x:=Ia hc g;unfold bW.ok at hc;refine aG (w.rI rfl (cA (m:=l.low+1) O O (nz aB (cA (m:=(l.low+1)/2) (by rw[YK O];omega) O ?_))));refine Gu U O λout z v e Q S y=>?_;have J:=y;obtain⟨_,P,s1,d,r,C⟩:=y;have u:s1.len=(gQ ((l.low+1)/2) l).2.os.length:=by have:=r.1;simp[Wv]at this;omega
 refine Jn.intro ?_;have rest:∀(j:Hp) (lim:Nat),Ext (· = b) v j->lim=(if l.lim>c.batch then max (l.lim-c.batch) c.batch else l.lim)->bX j b (nN s1 {(gQ ((l.low+1)/2) l).2 with lim:=lim}) →
  bS (some ⟨b,0,none⟩) λF=>jn (F.add 0) j λE=>bS (some ⟨b,0,none⟩) λD=>dG (D.add 2) (.int .i64 ((E.len:Nat):Int)) j λv2=>R out v2:=by
  intro j lim e1 hlim a;refine aG (a.rS rfl (aG (a.s1 (by simp[nN]) λv2 o2 p=>?_)));have A:=e1.trans o2.ext;have M:=d.lt;refine hR out z v2 (e.trans A) Q (aI.bU S A λq _ H L=>?_) ?_
  ·have:=w.lt;omega
  ·refine⟨.inl rfl,x,s1,?_,aH.bU r A λq _ H L=>H.2 L,C⟩;simp only[u]at p;subst hlim;exact p
 refine aG (d.rI rfl ?_);refine cI (λB=>?_) λB=>?_
 ·have i:l.lim>c.batch:=by simp only[gQ]at B;omega
  refine aG (d.rI rfl (cA (m:=l.lim-c.batch) (by simp only[gQ];omega) O (aG (d.s1 (by simp[nN]) λj o1 a=>rest j (max (l.lim-c.batch) c.batch) o1.ext (by rw[zB i]) ?_))));have:(if(c.batch:Int)>((l.lim-c.batch:Nat):Int)then(c.batch:Int)else((l.lim-c.batch:Nat):Int))=((max (l.lim-c.batch) c.batch:Nat):Int):=by split<;>omega
  rw[this]at a;exact a
 ·have i:¬l.lim>c.batch:=by simp only[gQ]at B;omega
  exact rest v l.lim (Ext.refl _ _) (by rw[zA i]) d
def oU (x:Nat×Sl):List Value:=[.int .i64 (x.1:Int),.slice x.2.a x.2.len x.2.cap]
def fK (l:List (Nat×Sl)):List Value:=l.flatMap oU
theorem KF (l:List (Nat×Sl)):(fK l).length=l.length*2:=by
 induction l with
 | nil=>rfl
 | cons x l ih=>
  have e:fK (x::l)=oU x++fK l:=rfl;have a:(oU x).length=2:=rfl;rw[e,zK,ih,a,zP];omega
theorem U0 (a b:List (Nat×Sl)):fK (a++b)=fK a++fK b:=by simp[fK]
theorem HN {l:List (Nat×Sl)}:∀v∈fK l,dN v=true:=by
 intro v hv;obtain⟨p,_,a⟩:=qX.1 hv;simp only[oU,zQ,List.not_mem_nil,or_false]at a;rcases a with rfl|rfl<;>rfl
theorem PV {l:List (Nat×Sl)}{i:Nat}{p:Nat×Sl}(h:l[i]?=some p){d:Nat}(hd:d<2):(fK l)[2*i+d]?=(oU p)[d]? := by
 induction l generalizing i with
 | nil=>simp at h
 | cons x l ih=>
  have e:fK (x::l)=oU x++fK l:=rfl;have a:(oU x).length=2:=rfl;rw[e];cases i with
  | zero=>
   simp at h;subst h;rw[zd O];congr 1;omega
  | succ i=>
   rw[zo O,a,show 2*(i+1)+d-2=2*i+d by omega];exact ih (by simpa using h)
def k7 (ps:List (Nat×Sl))(bs:List Bt)(σ:Hp)(D:Rg):Prop:=ps.length=bs.length/\∀(i:Nat) p x,ps[i]?=some p->bs[i]?=some x->p.1=x.1/\cR p.2 1 (Wv x.2) σ D/\p.2.len<=p.2.cap
theorem k7.loc (ps:List (Nat×Sl))(bs:List Bt):dR (k7 ps bs):=λσ g F G h d e=>⟨h.1,λi p x b a=>⟨(h.2 i p x b a).1,cR.loc _ _ _ _ _ _ _ (h.2 i p x b a).2.1 d e,(h.2 i p x b a).2.2⟩⟩
def uH (ps:List (Nat×Sl)):Prop:=ps.Pairwise λp q=>∀a a',p.2.a=some a->q.2.a=some a'->a.block≠a'.block
theorem uH.snoc {ps:List (Nat×Sl)}{bs:List Bt}{σ v:Hp}{D X:Rg}{s:Sl}{xs:List Int}(h:uH ps)(hB:k7 ps bs σ D)(hne:∀x∈bs,x.2≠[])(hs:cR s 1 (Wv xs) v X)(hx:xs≠[])(hd:∀b,b<σ.size->D b->¬X b)(k:Nat):uH (ps++[(k,s)]):=by
 refine pS.2 ⟨h,List.pairwise_singleton _ _,λp w q r=>?_⟩;rw[zV]at r;subst r;intro a a' h1 h2 e;obtain⟨i,u⟩:=zN w;have d:=(cQ.1 u).1;have m:bs[i]?=some (bs[i]'(by rw[←hB.1];exact d)):=cM _;generalize (bs[i]'(by rw[←hB.1];exact d))=y at m;obtain⟨_,j,_⟩:=hB.2 i p y u m;have g:=j.bZ (by simpa[Wv]using hne y (zE m)) ⟨a,h1,rfl⟩;have z:=hs.bZ (by simpa[Wv]using hx) ⟨a',h2,rfl⟩;rw[e]at g;exact hd _ g.2 g.1 z.1
def ik (s:Sl)(bs:List Bt):Hp->Rg->Prop:=λσ F=>∃(ps:List (Nat×Sl)) (D:Rg),dM s 2 (fK ps) σ (λq=>F q/\¬D q)/\k7 ps bs σ D/\(∀q,D q->F q)/\uH ps/\∀x∈bs,x.2≠[]
theorem ik.loc (s:Sl)(bs:List Bt):dR (ik s bs):=λσ r F G ⟨p,D,i,j,e,m⟩ g b=>
 ⟨p,λq=>D q/\q<σ.size,dM.loc _ _ _ _ _ _ _ i g λq a d=>⟨⟨(b q a d.1).1,λhd=>d.2 hd.1⟩,(b q a d.1).2⟩,k7.loc _ _ _ _ _ _ j g λq a hd=>⟨⟨hd,a⟩,(b q a (e q hd)).2⟩,λq a=>(b q a.2 (e q a.1)).1,m⟩
theorem ik.nil (σ:Hp)(F:Rg)(a:Option Addr):ik ⟨a,0,0⟩ [] σ F:=⟨[],λ_=>False,dM.nil _ _ _ _,⟨rfl,λi p x h=>by simp at h⟩,λq h=>h.elim,List.Pairwise.nil,by simp⟩
theorem ik.len {s:Sl}{bs:List Bt}(h:ik s bs σ F):s.len=bs.length:=by
 obtain⟨d,D,a,b,_⟩:=h;have:=a.1;rw[KF]at this;have:=b.1;omega
theorem ik.cap {s:Sl}{bs:List Bt}(h:ik s bs σ F):s.len<=s.cap:=by
 obtain⟨b,D,a,_⟩:=h;exact a.cap
def H8:Prop:=∀{σ:Hp} {F:Rg} {s:Sl} {xs:List (Nat×Sl)},bR s 2 (fK xs) σ F->(∀x∈xs,x.1<64)->xs.length<=1000->∀{R:aP},
 (∀xs' σ',xs'.Perm xs->xs'.Pairwise (λa b=>a.1<=b.1)->Ext F σ σ'->bR s 2 (fK xs') σ' F->R σ')->Z0.c s ⟨262,#[],#[]⟩ σ R
theorem Ff:∀{a b:List Nat},a.Pairwise (· < ·)->b.Pairwise (· < ·)->(∀x,x∈a↔x∈b)->a=b
 | [],[],_,_,_=>rfl
 | [],y::b,_,_,h=>by have:=(h y).2 aA;simp at this
 | x::a,[],_,_,h=>by have:=(h x).1 aA;simp at this
 | x::a,y::b,ha,hb,h=>by
  rw[mM]at ha hb;have e:x=y:=by
   rcases zQ.1 ((h x).1 aA)with h1|h1
   ·exact h1
   ·rcases zQ.1 ((h y).2 aA)with h2|h2
    ·exact h2.symm
    ·have:=ha.1 y h2;have:=hb.1 x h1;omega
  subst e
  congr 1
  refine Ff ha.2 hb.2 λz=>?_;have d:=h z;simp only[zQ]at d;constructor
  ·intro hza;have:=ha.1 z hza;rcases d.1 (.inr hza)with h1|h1
   ·omega
   ·exact h1
  ·intro hzb;have:=hb.1 z hzb;rcases d.2 (.inr hzb)with h1|h1
   ·omega
   ·exact h1
theorem Hi {f:bW->Li->List Int×Li}{x:Bt}:x∈Ka f tb ls↔∃c l,tb[x.1]?=some c/\ls[x.1]?=some l/\x.2=(f c l).1/\x.2≠[]:=by
 unfold Ka;rw[vF];constructor
 ·rintro⟨k,hk,h⟩;split at h
  ·rename_i c l hc hl;split at h
   ·cases h
   ·rename_i hne;cases h;exact⟨c,l,hc,hl,rfl,hne⟩
  ·cases h
 ·rintro⟨c,l,hc,hl,e,hne⟩;refine⟨x.1,zU.2 (cQ.1 hc).1,?_⟩;rw[hc,hl];simp only;rw[zA (by rw[←e];exact hne),←e]
theorem OT {f:bW->Li->List Int×Li}:((Ka f tb ls).map (·.1)).Pairwise (· < ·):=by
 unfold Ka;have key:∀(n:Nat),(((List.range n).filterMap λk=>match tb[k]?,ls[k]? with
  | some c,some l=>if(f c l).1=[]then none else some ((k,(f c l).1):Bt)
  | _,_=>none).map (·.1)).Pairwise (· < ·)/\∀x∈((List.range n).filterMap λk=>match tb[k]?,ls[k]? with
  | some c,some l=>if(f c l).1=[]then none else some ((k,(f c l).1):Bt)
  | _,_=>none),x.1<n:=by
  intro n
  induction n with
  | zero=>simp
  | succ n ih=>
   rw[j7,uL,zr];refine⟨pS.2 ⟨ih.1,?_,?_⟩,?_⟩
   ·simp only[AK,List.filterMap_nil];split<;>simp
   ·intro a ha b hb;obtain⟨x,g,rfl⟩:=zC.1 ha;obtain⟨y,e,rfl⟩:=zC.1 hb;have j:=ih.2 x g;obtain⟨m,i,d⟩:=vF.1 e;clear e hb ha;simp only[zV]at i;subst i;split at d
    ·split at d
     ·cases d
     ·cases d;exact j
    ·cases d
   ·intro x g;rcases zR.1 g with g|g
    ·have:=ih.2 x g;omega
    ·obtain⟨m,i,e⟩:=vF.1 g;simp only[zV]at i;subst i;split at e
     ·split at e
      ·cases e
      ·cases e;omega
     ·cases e
 exact(key tb.length).1
def ny (todo:List (Int×Option Addr))(k:Nat):Prop:=((k:Nat):Int)∈todo.map (·.1)
instance (todo:List (Int×Option Addr)) (k:Nat):Decidable (ny todo k):=by unfold ny;infer_instance
theorem HQ {todo:List (Int×Option Addr)}{m k:Nat}:ny (todo.filter λy=>!(y.1==(m:Int))) k↔ny todo k/\k≠m:=by
 unfold ny;simp only[zC,zH,ni,m8];constructor
 ·rintro⟨y,⟨h1,h2⟩,h3⟩;exact⟨⟨y,h1,h3⟩,λe=>h2 O⟩
 ·rintro⟨⟨y,h1,h3⟩,h2⟩;exact⟨y,⟨h1,λe=>h2 O⟩,h3⟩
structure ya (f:bW->Li->List Int×Li) (tb:List bW) (ls:List Li) (todo:List (Int×Option Addr)) (ls':List Li) (outs:List Bt):Prop where
 l:∀k c l,tb[k]?=some c->ls[k]?=some l->ls'[k]?=some (if ny todo k then l else(f c l).2)
 n:(outs.map (·.1)).Nodup
 o:∀x:Bt,x∈outs↔∃c l,tb[x.1]?=some c/\ls[x.1]?=some l/\¬ny todo x.1/\x.2=(f c l).1/\x.2≠[]
theorem ya.step {f:bW->Li->List Int×Li}{todo:List (Int×Option Addr)}{ls':List Li}{outs:List Bt}(h:ya f tb ls todo ls' outs)(hc:tb[k]?=some c)(hl:ls[k]?=some l)(hk:ny todo k) :
 ya f tb ls (todo.filter λy=>!(y.1==(k:Int))) (ls'.set k (f c l).2) (if(f c l).1=[]then outs else outs++[(k,(f c l).1)]):=by
 have w:=h.l k c l hc hl;have z:=(cQ.1 w).1;have u:∀x∈outs,x.1≠k:=λx g e=>by
  obtain⟨_,_,_,_,C,_⟩:=(h.o x).1 g;rw[e]at C;exact C hk
 refine⟨λj d m hd p=>?_,?_,λx=>?_⟩
 ·by_cases hj:j=k
  ·subst hj;rw[hc]at hd;cases hd;rw[hl]at p;cases p;rw[zM z,zA (by rw[HQ];exact λg=>g.2 rfl)]
  ·rw[zi (Ne.symm hj),h.l j d m hd p]
   congr 1
   by_cases r:ny todo j
   ·rw[zB r,zB (HQ.2 ⟨r,hj⟩)]
   ·rw[zA r,zA λg=>r (HQ.1 g).1]
 ·split
  ·exact h.n
  ·rw[zr,og];refine⟨h.n,by simp,λa D b B e=>?_⟩;simp only[zJ,oY,zV]at B;subst B;obtain⟨x,g,E⟩:=zC.1 D;exact u x g (E.trans e)
 ·have s:(∃d m,tb[x.1]?=some d/\ls[x.1]?=some m/\¬ny (todo.filter λy=>!(y.1==(k:Int))) x.1/\x.2=(f d m).1/\x.2≠[])↔x∈outs\/(x=(k,(f c l).1)/\(f c l).1≠[]):=by
   constructor
   ·rintro⟨d,m,hd,p,r,e,i⟩;by_cases hj:x.1=k
    ·right;rw[hj]at hd p;rw[hc]at hd;cases hd;rw[hl]at p;cases p;exact⟨Prod.ext hj e,by rw[←e];exact i⟩
    ·left;exact(h.o x).2 ⟨d,m,hd,p,λg=>r (HQ.2 ⟨g,hj⟩),e,i⟩
   ·rintro(g|⟨rfl,i⟩)
    ·obtain⟨d,m,hd,p,r,e,i⟩:=(h.o x).1 g;exact⟨d,m,hd,p,λA=>r (HQ.1 A).1,e,i⟩
    ·exact⟨c,l,hc,hl,λA=>(HQ.1 A).2 rfl,rfl,i⟩
  rw[s];split
  ·rename_i he;constructor
   ·exact .inl
   ·rintro(g|⟨_,i⟩)
    ·exact g
    ·exact absurd he i
  ·rename_i he;rw[zR,zV];constructor
   ·rintro(g|g)
    ·exact .inl g
    ·exact .inr ⟨g,he⟩
   ·rintro(g|g)
    ·exact .inl g
    ·exact .inr g.1
set_option maxRecDepth 4000 in
theorem Is (hso:H8){f:bW->Li->List Int×Li}{fn:Nat}(hf:Dw f fn)(hnil:∀c,c.ok->f c iv=([],iv))(h:eD σ F Y tb bud ls){R:Sl->Hp->Prop}
 (hR:∀σ' s (Q:Rg),Ext F σ σ'->(∀q,Q q->σ.size<=q)->eD σ' (λq=>Grow F σ q/\¬Q q) Y tb bud (Q6 f tb ls)->ik s (Ka f tb ls) σ' Q->R s σ') :
 Xj.c (aW Y.p) ⟨fn,#[],#[]⟩ σ R:=by
 refine Xj.o ?_;unfold Xj.v;refine Hk h (cG rfl (aG (h.hd.rM rfl ?_)));have htb:=h.nM;refine sK (a:=.s) h.map (λC (out:Sl) v=>∃(ls':List Li) (w:List Bt) (Q D:Rg) (ps:List (Nat×Sl)),Ext F σ v/\(∀q,Q q->σ.size<q)/\eD v (λq=>(Cut F σ q\/σ.size<q)/\¬Q q) Y tb bud ls' ∧
  bR out 2 (fK ps) v (λq=>Q q/\¬D q)/\k7 ps w v D/\(∀q,D q->Q q)/\ya f tb ls C ls' w/\(∀e∈C,e∈kH Y.ps)/\(C.map (·.1)).Nodup/\uH ps) ?_ ?_ ?_
 ·intro v hz e;refine⟨ls,[],λ_=>False,λ_=>False,[],bO.to e,λq g=>g.elim,((eD.loc.bK h.cut e).mono λq _ g=>⟨.inl g,id⟩),bR.nil _ _ _ _,⟨rfl,λi p x K=>by simp at K⟩,λq g=>g.elim,⟨λk c l E N=>?_,by simp,λx=>?_⟩,λe P=>P,h.map.nodup,List.Pairwise.nil⟩
  ·by_cases hi:ny (kH Y.ps) k
   ·rw[zB hi,N]
   ·rw[zA hi];have hf0:jh Y.ps k=none:=by
     unfold jh;simp only[rq,n4,zZ];exact λx r e=>hi (zC.2 ⟨((x.1:Int),some ⟨x.2,0,none⟩),zC.2 ⟨x,r,rfl⟩,by rw[e]⟩)
    have:=h.nil hf0 N;rw[N,this,hnil c (h.ok c (zE E))]
  ·simp only[List.not_mem_nil,false_iff];rintro⟨c,l,E,N,hi,e,hne⟩;have hf0:jh Y.ps x.1=none:=by
    unfold jh;simp only[rq,n4,zZ];exact λy W e=>hi (zC.2 ⟨((y.1:Int),some ⟨y.2,0,none⟩),zC.2 ⟨y,W,rfl⟩,by rw[e]⟩)
   have:=h.nil hf0 N;rw[this,hnil c (h.ok c (zE E))]at e;exact hne e
 ·rintro out v ⟨ls',w,Q,D,ps,e,hQ,hC,X,hB,hD,hI,_,_,U⟩;have hno:∀k,¬ny [] k:=λk hk=>by simp[ny]at hk
  have hls:ls'=Q6 f tb ls:=by
   apply zz;intro k;by_cases hk:k<tb.length
   ·have E:tb[k]?=some tb[k]:=cM hk;have N:ls[k]?=some (ls[k]'(by rw[h.len];exact hk)):=cM _;rw[hI.l k _ _ E N,zA (hno k)];simp[Q6,BV,E,N]
   ·rw[zY (by rw[hC.len];omega),zY (by simp[Q6,h.len];omega)]
  subst hls;have hk1:∀(i:Nat) p,ps[i]?=some p->∃x,w[i]?=some x/\p.1=x.1/\cR p.2 1 (Wv x.2) v D/\p.2.len<=p.2.cap:=λi p K=>by
   have hi:=(cQ.1 K).1;have r:w[i]?=some (w[i]'(by rw[←hB.1];exact hi)):=cM _;exact⟨_,r,hB.2 i p _ K r⟩
  have B:ps.map (·.1)=w.map (·.1):=by
   apply zz;intro i;simp only[ze];cases K:ps[i]? with
   | none=>
    have:w[i]?=none:=by
     rw[List.getElem?_eq_none_iff]at K ⊢;rw[←hB.1];exact K
    rw[this];rfl
   | some p=>
    obtain⟨x,r,e1,_⟩:=hk1 i p K;rw[r];simp[e1]
  have V:∀x∈w,x.1<40:=λx r=>by
   obtain⟨c,l,E,_⟩:=(hI.o x).1 r;have:=(cQ.1 E).1;omega
  have hlen:ps.length<=40:=by
   have hn:=hI.n;rw[←B]at hn;have:=hn.length_le_of_subset (l₂:=List.range 40) λj U=>by
    rw[B]at U;obtain⟨x,r,rfl⟩:=zC.1 U;exact zU.2 (V x r)
   simpa using this
  refine hso X (λp K=>?_) O λps' v' L hsort e' hrow'=>?_
  ·have:p.1∈w.map (·.1):=by rw[←B];exact zC.2 ⟨p,K,rfl⟩
   obtain⟨x,r,e1⟩:=zC.1 this;have:=V x r;omega
  ·have hnd:(ps'.map (·.1)).Nodup:=(L.map _).nodup_iff.2 (by rw[B];exact hI.n);have hinc:(ps'.map (·.1)).Pairwise (· < ·):=by
    refine List.Pairwise.map (R:=λa b:Nat×Sl=>a.1<b.1) _ (λa b aa=>aa) ?_;have A:ps'.Pairwise λa b=>a.1≠b.1:=qD.1 hnd;exact(hsort.and A).imp λ{a b} aa=>by have:=aa.1;have:=aa.2;omega
   have hkk:ps'.map (·.1)=(Ka f tb ls).map (·.1):=by
    refine Ff hinc OT λj=>?_;rw[(L.map _).mem_iff,B];constructor
    ·intro U;obtain⟨x,r,rfl⟩:=zC.1 U;obtain⟨c,l,E,N,_,e1,e2⟩:=(hI.o x).1 r;exact zC.2 ⟨x,Hi.2 ⟨c,l,E,N,e1,e2⟩,rfl⟩
    ·intro U;obtain⟨x,r,rfl⟩:=zC.1 U;obtain⟨c,l,E,N,e1,e2⟩:=Hi.1 r;exact zC.2 ⟨x,(hI.o x).2 ⟨c,l,E,N,hno _,e1,e2⟩,rfl⟩
   have eQ:Ext F σ v':=e.fF e' λq g=>.inr (rU (hQ q g.1));refine hR v' out Q eQ (λq g=>rU (hQ q g)) ?_ ⟨ps',D,hrow'.o,⟨?_,λi p x K r=>?_⟩,hD,(L.pairwise_iff λ{a b} aa x y A h2 e=>aa y x h2 A e.symm).2 U,λx r=>by
    obtain⟨_,_,_,_,_,h2⟩:=Hi.1 r;exact h2⟩
   ·refine(eD.loc.bU hC e' λq _ g hq2=>g.2 hq2.1).mono λq _ g=>⟨?_,g.2⟩;rcases g.1 with r|r
    ·exact .inl r.1
    ·exact .inr (rU r)
   ·have:=congrArg List.length hkk;simpa using this
   ·have e1:p.1=x.1:=by
     have:=congrArg (λl=>l[i]?) hkk;simp only[ze,K,r,zf,Option.some.injEq]at this;exact this
    obtain⟨j,U⟩:=zN (L.mem_iff.1 (zE K));obtain⟨y,W,e2,hs,hcap⟩:=hk1 j p U;have e3:x.2=y.2:=by
     obtain⟨c,l,E,N,_,A,_⟩:=(hI.o y).1 (zE W);obtain⟨c',l',hc',hl',h2,_⟩:=Hi.1 (zE r);rw[←e1,e2,E]at hc';cases hc';rw[←e1,e2,N]at hl';cases hl';rw[A,h2]
    rw[e3];exact⟨e1,aH.bU hs e' λq _ g hq2=>hq2.2 g,hcap⟩
 ·rintro C n x out v v' J ⟨ls',w,Q,D,ps,e,hQ,hC,X,hB,hD,hI,hsub,hnd,U⟩ r ho hlt hJ;have e1:Ext F σ v':=e.only ho (.inr (zD _));have S:eD v' (λq=>(Cut F σ q\/σ.size<q)/\¬Q q) Y tb bud ls':=eD.loc.bU hC ho.ext λq _ g P=>by
   rcases g.1 with A|A
   ·have:=A.2;omega
   ·omega
  have hrow1:bR out 2 (fK ps) v' (λq=>(Q q/\¬D q)/\q<v'.size):=aI.cut (aI.bU X ho.ext λq _ g P=>by have:=hQ q g.1;omega);have hB1:k7 ps w v' (λq=>D q/\q<v'.size):=(k7.loc _ _).cut ((k7.loc _ _).bU hB ho.ext λq _ g P=>by have:=hQ q (hD q g);omega);have hmem:=hsub _ r;simp only[kH,zC,Prod.mk.injEq]at hmem;obtain⟨⟨k,b⟩,hkb,hk1,hx1⟩:=hmem;simp only at hk1 hx1;subst hk1;subst hx1;have hk:=h.keys _ hkb;simp only at hk;have E:tb[k]?=some tb[k]:=cM hk;have N:ls[k]?=some (ls[k]'(by rw[h.len];exact hk)):=cM _;generalize tb[k]=c at E;generalize (ls[k]'(by rw[h.len];exact hk))=l at N;have hcok:=h.ok c (zE E);have hlk:jh Y.ps k=some b:=EG h.map.nodup hkb;have hin:ny C k:=zC.2 ⟨_,r,rfl⟩;have hl':ls'[k]?=some l:=by rw[hI.l k c l E N,zB hin]
  have M:=hI.step E N hin;have hmF:(λq=>(Cut F σ q\/σ.size<q)/\¬Q q) Y.m:=by
   obtain⟨H,hH,hm⟩:=S.sep.get .mp;exact hH _ hm.1
  obtain⟨G,hG,hL,hGm,hput⟩:=S.xB hlk hl';have Z:=hG b hL.1;have hbm:b≠Y.m:=λe=>hGm (e▸hL.1);have hbs:b≠σ.size:=λe=>by
   subst e;rcases Z.1 with A|A
   ·have:=A.2;omega
   ·omega
  have hblt:b<v'.size:=by obtain⟨_,_,s,hbk,_⟩:=hL;exact hbk.lt
  have hsz1:=ho.1;refine aG (S.hd.rS rfl (uE S.jI E (d:=2) O ?_));simp only[zA (show ¬(2=0) by omega),zA (show ¬(2=1) by omega)];refine hf hL hcok λs z v5 e5 hz hr hL5=>?_;have hs5:=e5.1;obtain⟨eF,h5⟩:=hput v5 _ (λq=>q=b\/z<=q) (e5.sub λq g=>by rw[g];exact hL.1) (λq g=>g.imp (λ(r:q=b)=>by rw[r];exact hL.1) λ(r:z<=q)=>O) hL5;have h5:=h5.cut;have eF5:Ext F σ v5:=e1.fF eF λq g=>by
   rcases g.1 with A|A
   ·exact .inl A.1
   ·exact .inr (rU A)
  have hnb:∀q,Q q->q≠b:=λq g hqb=>Z.2 (hqb▸g);have hrow5:=aI.bU hrow1 e5 λq _ g P=>hnb q g.1.1 P;have hB5:=(k7.loc _ _).bU hB1 e5 λq _ g P=>hnb q (hD q g.1) P;have hsl:s.len=(f c l).1.length:=by have:=hr.1;simp[Wv]at this;omega
  have hsub':∀y∈C.filter (λy=>!(y.1==(k:Int))),y∈kH Y.ps:=λy W=>hsub y (zH.1 W).1;have hnd':((C.filter λy=>!(y.1==(k:Int))).map (·.1)).Nodup:=hnd.sublist (List.filter_sublist.map _);by_cases hemp:(f c l).1=[]
  ·rw[zB hemp]at M;refine fG (by rw[hsl,hemp];simp) (hJ out v5 (e5.2 _ O λP=>hbs P.symm) (e5.2 _ S.map.lt λP=>hbm P.symm) ?_);refine⟨_,w,λq=>Q q/\q<v'.size,λq=>D q/\q<v'.size,ps,eF5,λq g=>hQ q g.1,h5.mono λq _ g=>?_,aI.mono hrow5 λq _ g=>⟨⟨g.1.1,g.2⟩,λhd=>g.1.2 hd.1⟩,hB5,λq g=>⟨hD q g.1,g.2⟩,M,hsub',hnd',U⟩;rcases g.1 with A|A|A
   ·exact⟨A.1.1,λr=>A.1.2 r.1⟩
   ·subst A;exact⟨Z.1,λr=>Z.2 r.1⟩
   ·exact⟨.inr O,λr=>O⟩
  ·rw[zA hemp]at M;have hpos:=qo.2 hemp;refine lU (by rw[hsl];omega) (nw (cs:=oU (k,s)) λv6 hz6 e6 hb6=>?_);have hrow6:=aI.bK hrow5 e6;have hB6:=(k7.loc _ _).bK hB5 e6;have hr6:=aI.bK (aI.cut hr) e6;have hpl:out.len=ps.length:=by have:=X.1;rw[KF]at this;omega
   have hol:ps.length<=40:=by
    have B:w.map (·.1)⊆List.range 40:=λj U=>by
     obtain⟨x,r,rfl⟩:=zC.1 U;obtain⟨c,l,E,_⟩:=(hI.o x).1 r;have:=(cQ.1 E).1;exact zU.2 O
    have:=hI.n.length_le_of_subset B;rw[hB.1];simpa using this
   refine hrow6.app (ys:=oU (k,s)) rfl rfl ?_ (λv hv=>HN (l:=[(k,s)]) v (by simpa[fK]using hv)) ?_ ?_ nA λs' v7 hl7 e7 hr7=>?_
   ·intro j u hu;rw[add_lit,zG,hb6.cell];exact hu
   ·simp only;have:(out.len+1)*32<=41*32:=kL O O;omega
   ·simp only;omega
   have hs7:=e7.1;have e57:Ext (λq=>(Q q/\¬D q)/\q<v'.size) v5 v7:=(bO.to e6).trans e7;refine hJ s' v7 ?_ ?_ ?_
   ·rw[e57.2 _ O λr=>by have:=hQ _ r.1.1;omega];exact e5.2 _ O λP=>hbs P.symm
   ·rw[e57.2 _ (by have:=S.map.lt;omega) λr=>hmF.2 r.1.1];exact e5.2 _ S.map.lt λP=>hbm P.symm
   refine⟨_,_,λq=>Q q/\q<v'.size\/(v'.size<=q/\q<z)\/v5.size<=q,λq=>D q/\q<v'.size\/(v'.size<=q/\q<z)/\q<v5.size,ps++[(k,s)],eF5.fF e57 λq g=>.inr (rU (hQ q g.1.1)),λq g=>?_,(eD.loc.bU h5 e57 λq hq5 g r=>?_).mono λq _ g=>?_,?_,⟨?_,λi p y K W=>?_⟩,λq g=>?_,M,hsub',hnd',U.snoc hB1 (λx r=>by
    obtain⟨_,_,_,_,_,_,h2⟩:=(hI.o x).1 r;exact h2) hr.gp hemp (λb hb r W=>by have:=r.2;have:=W.1;omega) k⟩
   ·rcases g with g|g|g
    ·exact hQ q g.1
    ·omega
    ·omega
   ·rcases g.1 with A|A|A
    ·exact A.1.2 r.1.1
    ·exact hnb q r.1.1 A
    ·have:=r.2;omega
   ·have hq5:=g.2;rcases g.1 with A|A|A
    ·exact⟨A.1.1,λr=>by
      rcases r with r|r|r
      ·exact A.1.2 r.1
      ·have:=A.2.1;omega
      ·omega⟩
    ·subst A;exact⟨Z.1,λr=>by
      rcases r with r|r|r
      ·exact Z.2 r.1
      ·omega
      ·omega⟩
    ·exact⟨.inr O,λr=>by
      rcases r with r|r|r<;>omega⟩
   ·rw[U0];have:fK [(k,s)]=oU (k,s):=by simp[fK]
    rw[this];refine aI.mono hr7 λq _ g=>?_;rcases g with g|g
    ·exact⟨.inl ⟨g.1.1,g.2⟩,λhd=>by
      rcases hd with hd|hd
      ·exact g.1.2 hd.1
      ·omega⟩
    ·exact⟨.inr (.inr O),λhd=>by
      rcases hd with hd|hd<;>omega⟩
   ·rw[zK,zK,hB.1];rfl
   ·rcases l8 i ps.length with hi|hi
    ·rw[zd hi]at K;rw[zd (by rw[←hB.1];exact hi)]at W;obtain⟨a1,a2,a3⟩:=hB6.2 i p y K W;exact⟨a1,aH.mono (aH.bU a2 e7 λq _ g r=>r.1.2 g.1) λq _ g=>.inl g,a3⟩
    ·rw[zo hi]at K;rw[zo (by rw[←hB.1];exact hi)]at W;have hi0:i-ps.length=0:=by
      have:=(cQ.1 K).1;simp at this;omega
     rw[hi0]at K;rw[show i-w.length=0 by rw[←hB.1];exact hi0]at W;simp at K W;subst K;subst W;exact⟨rfl,aH.mono (aH.bU hr6.gp e7 λq _ g r=>by have:=r.2;have:=g.1;omega) λq _ g=>.inr g,bR.qQ hr⟩
   ·rcases g with g|g
    ·exact .inl ⟨hD q g.1,g.2⟩
    ·exact .inr (.inl g.1)
theorem Mq (hso:H8)(h:eD σ F Y tb bud ls){R:Sl->Hp->Prop}
 (hR:∀σ' s (Q:Rg),Ext F σ σ'->(∀q,Q q->σ.size<=q)->eD σ' (λq=>Grow F σ q/\¬Q q) Y tb bud (Q6 ZX tb ls)->ik s (Ka ZX tb ls) σ' Q->R s σ'):XS.c (aW Y.p) σ R:=by
 refine XS.o ?_;unfold XS.v;exact Is hso Win (λc _=>M5 c) h hR
theorem κ (hso:H8)(h:eD σ F Y tb bud ls){R:Sl->Hp->Prop}
 (hR:∀σ' s (Q:Rg),Ext F σ σ'->(∀q,Q q->σ.size<=q)->eD σ' (λq=>Grow F σ q/\¬Q q) Y tb bud (Q6 KH tb ls)->ik s (Ka KH tb ls) σ' Q->R s σ'):Xa.c (aW Y.p) σ R:=by
 refine Xa.o ?_;unfold Xa.v;exact Is hso Pa SB h hR
end Go.Ar
namespace Go.Proofs
open Go.Vc
set_option maxRecDepth 100000
def Y7.h:Hn:=.q .o1 (.q (.q .o3 .aK) (.q .o1 (.q (.q .o8 (.k (.loop [(3,.one .s),(16,.I)] (.q .o1 (.q (.c .l .l) (.q (.k (.q .o3 .fV)) .o2)))))) .aL)))
def Y7.v (a:R2)(b:Hp)(c:Sl->Hp->Prop):Prop:=WO.c a b λd e=>If (!d) (c ⟨none,0,0⟩ e) (bI a 9 e λg=>ZO.c g e λh i=>VM.c h i λj k=>W7 [.s,bN] (λl=>l ⟨none,0,0⟩ 0 k) λm (n:Sl) (o:Int) p=>If (o<((j.len:Nat):Int)) (Ix j.a j.len o 1 λq=>bM q p λr=>bS a λs=>bB s 9 p λt=>Lk .i64 (.ag 4) t r p λu=>aV #[.I ((u.getD (0,0,0,0)).1),.I ((u.getD (0,0,0,0)).2.1),.I ((u.getD (0,0,0,0)).2.2.1),.I ((u.getD (0,0,0,0)).2.2.2)] 76 p λv w=>App n 4 32 76 [.I 0,.I 0,.I 0,.I 0] ⟨some v,1,1⟩ w λx y=>bL (o+1) λz=>m x z y) (c n p))
theorem Y7.o {a b c}(d:Y7.v a b c):Y7.c a b c:=Wa Tryz.func31 (x:=Y7.h) (R0 d)
def YX.h:Hn:=.q .o1 (.q (.q .o3 .aK) (.q .o6 .l))
def YX.v (a:R2)(b:Hp)(c:Sl->Hp->Prop):Prop:=WO.c a b λd e=>If (!d) (c ⟨none,0,0⟩ e) (bE a 0 e λg=>Wc.c g e λh i=>c h i)
theorem YX.o {a b c}(d:YX.v a b c):YX.c a b c:=Wa Tryz.func33 (x:=YX.h) (R0 d)
def YT.h:Hn:=.q .o1 (.q (.q .o3 .aJ) (.q (.cV (.hO true [12] [(3,.one .ad)] (.tk [0,1,2,3,5,6,7,8] (.all [(4,.all [(9,.take 10 (.all [(11,.all [(12,.done)])])),(11,.all [(9,.take 10 (.all [(12,.done)]))])]),(11,.all [(4,.all [(9,.take 10 (.all [(12,.done)]))])])])))) (.q (.q .o5 (.k (.loop [] (.q (.cV (.seq [.it .i64 (.ag 4),.op])) (.q (.c .l .l) (.k (.q (.cV (.seq [.it .i64 (.ag 4),.op,.op,.op])) (.q .o3 (.c .o7 .l))))))))) (.q (.q .o6 (.k (.loop [(56,.I)] (.q .o1 (.q (.c .l .l) (.q (.k (.q .o4 (.q (.cV (.held true [7] (.tk [0,1,2,3] (.all [(4,.take 5 (.take 6 (.all [(7,.done)])))])))) (.q .o4 (.k (.loop [(70,.I)] (.q .o1 (.q (.c .l .l) (.q (.k (.q .o4 (.cV (.tail 17 (RI.ops 17) [.op])))) .o2))))))))) .o2)))))) (.q (.q .o6 (.k (.loop [(98,.I)] (.q .o1 (.q (.c .l .l) (.q (.k (.q .o3 (.q (.o 15) (.q (.o 18) (.o 19))))) .o2)))))) .aL)))))
def YT.v (a:R2)(b:Hp)(c:Int->Int->Int->Int->Int->Int->Int->Int->Int->Int->Int->Hp->Prop):Prop:=aV #[.I 0,.I 0,.I 0,.I 0,.I 0,.I 0,.I 0,.I 0,.I 0,.I 0,.I 0] 89 b λd e=>WO.c a e λf g=>If (!f) (aR d 0 (.I 0) g λh=>aR d 1 (.I 0) h λi=>aR d 2 (.I 0) i λj=>aR d 3 (.I 0) j λk=>aR d 4 (.I 0) k λl=>aR d 5 (.I 0) l λm=>aR d 6 (.I 0) m λn=>aR d 7 (.I 0) n λo=>aR d 8 (.I 0) o λp=>aR d 9 (.I 0) p λq=>aR d 10 (.I 0) q λr=>aQ d 0 r λs=>aQ d 1 r λt=>aQ d 2 r λu=>aQ d 3 r λv=>aQ d 4 r λw=>aQ d 5 r λx=>aQ d 6 r λy=>aQ d 7 r λz=>aQ d 8 r λaa=>aQ d 9 r λab=>aQ d 10 r λac=>c s t u v w x y z aa ab ac r) (Jn [.ad] (λ(ad:Addr) ae=>bI a 9 ae λag=>sr .i64 (.ag 4) ag ae λah ai=>W7 [] (λaj=>aj ai) λak al=>rQ .i64 (.ag 4) ah al (bE a 8 al λan=>W7 [bN] (λao=>ao 0 al) λap (aq:Int) ar=>If (aq<((an.len:Nat):Int)) (Ix an.a an.len aq 3 λau=>aY au 0 ar λav=>aX au 1 ar λaw=>bA au 2 ar λax=>aV #[.pointer none,.slice none 0 0,.nilIface] 128 ar λay az=>O1 ax <| aR ay 0 (.pointer av) az λa0=>aR ay 1 (.slice aw.a aw.len aw.cap) a0 λa1=>aR ay 2 (ax) a1 λa2=>dU a2 λa3=>aS a3 ad 1 λa4=>aU a3 ay 0 λa5=>Xr.c a5 a2 λa6 a7=>
 And (a3 a7) <| bL (a4+a6) λa8=>aR ad 1 (.I a8) a7 λa9=>aX ay 1 a9 λba=>W7 [bN] (λbb=>bb 0 a9) λbc (bd:Int) be=>If (bd<((ba.len:Nat):Int)) (Ix ba.a ba.len bd 2 λbf=>aQ bf 0 be λbg=>aX bf 1 be λbh=>aV #[.I 0,.slice none 0 0] 130 be λbi bj=>aR bi 0 (.I bg) bj λbk=>aR bi 1 (.slice bh.a bh.len bh.cap) bk λbl=>aQ ad 2 bl λbm=>aX bi 1 bl λbn=>bE a 0 bl λbp=>aQ bi 0 bl λbq=>Ix bp.a bp.len bq 3 λbr=>aQ br 0 bl λbs=>bL (((bn.len:Nat):Int)*bs) λbt=>bL (bm+bt) λbu=>aR ad 2 (.I bu) bl λbv=>bL (bd+1) λbw=>bc bw bv) (bL (aq+1) λbx=>ap bx be)) (bE a 7 ar λb0=>W7 [bN] (λb1=>b1 0 ar) λb2 (b3:Int) b4=>If (b3<((b0.len:Nat):Int)) (Ix b0.a b0.len b3 1 λb5=>fW b5 b4 λb6=>X2.c b6 b4 λb7 b8 b9 ca cb cc cd=>aQ ad 3 cd λce=>bL (ce+b7) λcf=>aQ ad 4 cd λcg=>bL (cg+b8) λch=>aQ ad 5 cd λci=>bL (ci+b9) λcj=>aR ad 3 (.I cf) cd λck=>aR ad 4 (.I ch) ck λcl=>aR ad 5 (.I cj) cl λcm=>aQ ad 7 cm λcn=>bL (cn+ca) λco=>aQ ad 6 cm λcp=>bL (cb*256) λcq=>bL (cp+cq) λcr=>aQ ad 8 cm λcs=>bL (cs+cc) λct=>aR ad 7 (.I co) cm λcu=>aR ad 6 (.I cr) cu λcv=>aR ad 8 (.I ct) cv λcw=>bL (b3+1) λcx=>b2 cx cw) (aQ ad 0 b4 λcy=>aQ ad 1 b4 λcz=>
 aQ ad 2 b4 λc0=>aQ ad 3 b4 λc1=>aQ ad 4 b4 λc2=>aQ ad 5 b4 λc3=>aQ ad 6 b4 λc4=>aQ ad 7 b4 λc5=>aQ ad 8 b4 λc6=>aQ ad 9 b4 λc7=>aQ ad 10 b4 λc8=>aR d 0 (.I cy) b4 λc9=>aR d 1 (.I cz) c9 λda=>aR d 2 (.I c0) da λdb=>aR d 3 (.I c1) db λdc=>aR d 4 (.I c2) dc λdd=>aR d 5 (.I c3) dd λde=>aR d 6 (.I c4) de λdf=>aR d 7 (.I c5) df λdg=>aR d 8 (.I c6) dg λdh=>aR d 9 (.I c7) dh λdi=>aR d 10 (.I c8) di λdj=>aQ d 0 dj λdk=>aQ d 1 dj λdl=>aQ d 2 dj λdm=>aQ d 3 dj λdn=>aQ d 4 dj λdp=>aQ d 5 dj λdq=>aQ d 6 dj λdr=>aQ d 7 dj λds=>aQ d 8 dj λdt=>aQ d 9 dj λdu=>aQ d 10 dj λdv=>c dk dl dm dn dp dq dr ds dt du dv dj))) (λdw dx dy=>rX .i64 (.ag 4) ah dy λdz d0=>aV #[.I 0,.I 0,.I 0,.I 0] 76 dy λd1 d2=>aR d1 0 (.I d0.1) d2 λd3=>aR d1 1 (.I d0.2.1) d3 λd4=>aR d1 2 (.I d0.2.2.1) d4 λd5=>aR d1 3 (.I d0.2.2.2) d5 λd6=>aQ d1 2 d6 λd7=>If (d7≥0) (aQ ad 0 d6 λd8=>aQ d1 1 d6 λd9=>bL (d8+d9) λea=>aR ad 0 (.I ea) d6 λeb=>ak eb) (ak d6))) λec=>dU g λed=>bS a λee=>aU ed ee 6 λef=>bS a λeg=>aU ed eg 6 λeh=>(XA.c ef g λei ej=>And (ed ej) <|
 (Xv.c eh ej λek el=>And (ed el) <| aV #[.I 0,.I 0,.I 0,.I 0,.I 0,.I 0,.I 0,.I 0,.I 0,.I 0,.I 0] 89 el λem en=>And (ed en) <| aR em 0 (.I 0) en λeo=>aR em 1 (.I 0) eo λep=>aR em 2 (.I 0) ep λeq=>aR em 3 (.I 0) eq λer=>aR em 4 (.I 0) er λes=>aR em 5 (.I 0) es λet=>aR em 6 (.I 0) et λeu=>aR em 7 (.I 0) eu λev=>aR em 8 (.I 0) ev λew=>aR em 9 (.I ei) ew λex=>aR em 10 (.I ek) ex λey=>ec em ey) ∧ (aV #[.I 0,.I 0,.I 0,.I 0,.I 0,.I 0,.I 0,.I 0,.I 0,.I 0,.I 0] 89 ej λez e0=>And (ed e0) <| Xv.c eh e0 λe1 e2=>And (ed e2) <| aR ez 0 (.I 0) e2 λe3=>aR ez 1 (.I 0) e3 λe4=>aR ez 2 (.I 0) e4 λe5=>aR ez 3 (.I 0) e5 λe6=>aR ez 4 (.I 0) e6 λe7=>aR ez 5 (.I 0) e7 λe8=>aR ez 6 (.I 0) e8 λe9=>aR ez 7 (.I 0) e9 λfa=>aR ez 8 (.I 0) fa λfb=>aR ez 9 (.I ei) fb λfc=>aR ez 10 (.I e1) fc λfd=>ec ez fd)) ∧ (aV #[.I 0,.I 0,.I 0,.I 0,.I 0,.I 0,.I 0,.I 0,.I 0,.I 0,.I 0] 89 g λfe ff=>And (ed ff) <| XA.c ef ff λfg fh=>And (ed fh) <| Xv.c eh fh λfi fj=>And (ed fj) <| aR fe 0 (.I 0) fj λfk=>aR fe 1 (.I 0) fk λfl=>aR fe 2 (.I 0) fl λfm=>aR fe 3 (.I 0) fm λfn=>aR fe 4 (.I 0) fn λfo=>aR fe 5 (.I 0) fo λfp=>aR fe 6 (.I 0) fp λfq=>aR fe 7 (.I 0) fq λfr=>aR fe 8 (.I 0) fr λfs=>aR fe 9 (.I fg) fs λft=>aR fe 10 (.I fi) ft λfu=>
 ec fe fu))
theorem YT.o {a b c}(d:YT.v a b c):YT.c a b c:=Wa Tryz.func36 (x:=YT.h) (R0 d)
def Yh.h:Hn:=.q .o2 (.q .fV .l)
def Yh.v (a:R2)(b c d:Int)(e:Hp)(f:Int->Int->Hp->Prop):Prop:=X0.c a b 0 c d 0 e λg h i=>f g h i
theorem Yh.o {a b c d e f}(g:Yh.v a b c d e f):Yh.c a b c d e f:=Wa Tryz.func52 (x:=Yh.h) (R0 g)
def Y9.h:Hn:=.q .o1 (.q (.q .o3 .aJ) (.q .o5 .l))
def Y9.v (a:R2)(b:Hp)(c:Int->Int->Int->Int->Int->Hp->Prop):Prop:=aV #[.I 0,.I 0,.I 0,.I 0,.I 0] 40 b λd e=>WO.c a e λf g=>If (!f) (aR d 0 (.I 0) g λh=>aR d 1 (.I 0) h λi=>aR d 2 (.I 0) i λj=>aR d 3 (.I 0) j λk=>aR d 4 (.I 0) k λl=>aQ d 0 l λm=>aQ d 1 l λn=>aQ d 2 l λo=>aQ d 3 l λp=>aQ d 4 l λq=>c m n o p q l) (bS a λr=>bM ((r.add 1).add 0) g λs=>bM ((r.add 1).add 1) g λt=>bM ((r.add 1).add 2) g λu=>bM ((r.add 1).add 3) g λv=>bM ((r.add 1).add 4) g λw=>aR d 0 (.I s) g λx=>aR d 1 (.I t) x λy=>aR d 2 (.I u) y λz=>aR d 3 (.I v) z λaa=>aR d 4 (.I w) aa λab=>aQ d 0 ab λac=>aQ d 1 ab λad=>aQ d 2 ab λae=>aQ d 3 ab λaf=>aQ d 4 ab λag=>c ac ad ae af ag ab)
theorem Y9.o {a b c}(d:Y9.v a b c):Y9.c a b c:=Wa Tryz.func55 (x:=Y9.h) (R0 d)
def Zr.h:Hn:=.q .o1 (.q .fV .aL)
def Zr.v (a:R2)(b c:Int)(d:Hp)(e:aN):Prop:=X0.c a b 1 0 0 c d λf g h=>e g h
theorem Zr.o {a b c d e}(f:Zr.v a b c d e):Zr.c a b c d e:=Wa Tryz.func58 (x:=Zr.h) (R0 f)
def WO.h:Hn:=.q .o1 (.q (.cV (.seq [.op,.op,.op,.dA true 6 (RI.ops 6),.op])) .l)
def WO.v (a:R2)(b:Hp)(c:aO):Prop:=bY (λd e=>c d e) λf=>If (!a.isNone) (bE a 8 b λh=>f (decide (((h.len:Nat):Int)>0)) b) (f false b)
theorem WO.o {a b c}(d:WO.v a b c):WO.c a b c:=Wa Tryz.func65 (x:=WO.h) (R0 d)
def Yl.h:Hn:=.q .o2 (.q (.q .o2 .aK) (.q .o7 .l))
def Yl.v (a:R2)(b:Int)(c:Hp)(d:aN):Prop:=aV #[.I b] 3 c λe f=>bM e f λg=>If (g<0) (d (-1) f) (bE a 7 f λi=>Wk.c i ⟨112,#[],#[.pointer (some e)]⟩ f λj k=>d j k)
theorem Yl.o {a b c d}(e:Yl.v a b c d):Yl.c a b c d:=Wa Tryz.func75 (x:=Yl.h) (R0 e)
def X0.h:Hn:=.q .o3 (.q (.q .o5 (.q .o2 (.c (.q .o3 .l) .l))) (.k (.loop [] (.k (.q (.o 11) (.q .o1 (.c (.q (.oq 6) .l) .l)))))))
def X0.v (a:R2)(b c d e f:Int)(g:Hp)(h:Int->Int->Hp->Prop):Prop:=aV #[.I c,.I d,.I e,.I f] 142 g λi j=>aQ i 0 j λk=>aQ i 1 j λl=>aQ i 2 j λm=>aQ i 3 j λn=>Yd.c a b k l m n j λo p=>If (o != 0) (h 0 o p) (W7 [] (λq=>q p) λr s=>Zb.c a b s λt u v w x=>aV #[.I 0,.I 0] 156 x λy z=>aR y 0 (.I u) z λaa=>aR y 1 (.I v) aa λab=>If t (aQ y 0 ab λac=>aQ y 1 ab λad=>h ac ad ab) (r ab))
theorem X0.o {a b c d e f g h}(i:X0.v a b c d e f g h):X0.c a b c d e f g h:=Wa Tryz.func83 (x:=X0.h) (R0 i)
def Zn.h:Hn:=.q .o1 (.q (.q .o3 .aK) (.q .o5 .l))
def Zn.v (a:R2)(b:Hp)(c:Option Addr->Hp->Prop):Prop:=WO.c a b λd e=>If (!d) (c none e) (bF a 6 e λg=>c g e)
theorem Zn.o {a b c}(d:Zn.v a b c):Zn.c a b c:=Wa Tryz.func84 (x:=Zn.h) (R0 d)
def Kw.h:Hn:=.q .o3 (.q (.k (.q .o4 (.c .aL (.q .o4 .aJ)))) (.q (.cV (.hO true [] [(6,.one .p)] (.take 0 (.take 2 (.all [(1,.all [(3,.take 4 (.all [(5,.take 6 (.done))]))]),(3,.all [(1,.take 4 (.all [(5,.take 6 (.done))]))])]))))) (.q .fV (.q (.q .o3 (.k (.loop [(36,.I)] (.q .o1 (.q (.c .l .l) (.q (.k (.q (.cV (.held true [7] (.take 0 (.take 1 (.take 2 (.take 3 (.take 4 (.take 5 (.take 6 (.all [(7,.take 8 (.take 9 (.take 10 (.take 11 (.take 12 (.done))))))])))))))))) (.o 11))) .o2)))))) (.q (.q .o3 (.k (.loop [(62,.I)] (.q .o1 (.q (.c .l .l) (.q (.k (.q .o9 (.o 12))) .o2)))))) (.q .o3 .l))))))
def Kw.v (a:Sl)(b c d e f:Int)(g:Hp)(h:Option Addr->Int->Hp->Prop):Prop:=aV #[.I b,.I c,.I d,.I e,.I f] 40 g λi j=>ZG.c a j λk l=>If (!k) (h none 2 l) (aQ i 0 l λm=>aQ i 1 l λn=>aQ i 2 l λo=>aQ i 3 l λp=>aQ i 4 l λq=>QB.c m n o p q l λr s=>If (!r) (h none 1 s) (Jn [.p] (λ(t:R2) u=>aQ i 0 u λv=>Q0.c v u λw x y=>bS t λz=>aR z 6 (.pointer w) y λaa=>aQ i 1 aa λab=>W7 [bN] (λac=>ac 0 aa) λad (ae:Int) af=>If (ae<ab) (dU af λag=>bS t λah=>aU ag ah 6 λai=>aS ag i 4 λaj=>Q1.c a ai aj af λak al am=>bE t 7 am λao=>aV #[.pointer ak] 131 am λap aq=>App ao 1 8 131 [.pointer none] ⟨some ap,1,1⟩ aq λar au=>bS t λav=>aR av 7 (.slice ar.a ar.len ar.cap) au λaw=>bL (ae+1) λax=>ad ax aw) (aQ i 2 af λay=>W7 [bN] (λaz=>az 0 af) λa0 (a1:Int) a2=>If (a1<ay) (aQ i 3 a2 λa3=>QZ.c a a3 a2 λa4 a5 a6=>bE t 8 a6 λa8=>aV #[.pointer a4,.slice none 0 0,.nilIface] 128 a6 λa9 ba=>App a8 3 48 128 [.pointer none,.slice none 0 0,.nilIface] ⟨some a9,1,1⟩ ba λbb bc=>bS t λbd=>aR bd 8 (.slice bb.a bb.len bb.cap) bc λbe=>bL (a1+1) λbf=>a0 bf be) (h t 0 a2))) λbg=>dU s λbh=>aS bh i 0 λbi=>aS bh i 1 λbj=>
 aS bh i 2 λbk=>aS bh i 3 λbl=>aS bh i 4 λbm=>(Wc.c a s λbn bo=>And (bh bo) <| Nw (.map #[] 0) bo λbp bq=>And (bh bq) <| aV #[.slice bn.a bn.len bn.cap,.I bi,.I bj,.I bk,.I bl,.I bm,.pointer none,.slice none 0 0,.slice none 0 0,.map (some bp.block)] 46 bq λbr bs=>And (bh bs) <| bg (some br) bs) ∧ (Nw (.map #[] 0) s λbt bu=>And (bh bu) <| Wc.c a bu λbv bw=>And (bh bw) <| aV #[.slice bv.a bv.len bv.cap,.I bi,.I bj,.I bk,.I bl,.I bm,.pointer none,.slice none 0 0,.slice none 0 0,.map (some bt.block)] 46 bw λbx bz=>And (bh bz) <| bg (some bx) bz)))
theorem Kw.o {a b c d e f g h}(i:Kw.v a b c d e f g h):Kw.c a b c d e f g h:=Wa Tryz.func92 (x:=Kw.h) (R0 i)
def Zl.h:Hn:=.q .o1 (.q .o9 .aL)
def Zl.v (a:R2)(b:Int)(c:Hp)(d:aN):Prop:=X0.c a b 2 0 0 0 c λe f g=>d f g
theorem Zl.o {a b c d}(e:Zl.v a b c d):Zl.c a b c d:=Wa Tryz.func96 (x:=Zl.h) (R0 e)
def Zi.h:Hn:=.q .o1 (.q .o6 .l)
def Zi.v (a:R2)(b c:Int)(d:Hp)(e:aN):Prop:=Zn.c a d λf g=>YF.c f b c g λh i=>e h i
theorem Zi.o {a b c d e}(f:Zi.v a b c d e):Zi.c a b c d e:=Wa Tryz.func97 (x:=Zi.h) (R0 f)
def Yd.h:Hn:=.q .o2 (.q (.k (.q .o4 (.c .aM (.q .o5 (.c .aM (.q .fV .aK)))))) (.q .o4 (.q (.q .o2 .aK) (.q .o9 .aM))))
def Yd.v (a:R2)(b c d e f:Int)(g:Hp)(h:aN):Prop:=aV #[.I c,.I d,.I e,.I f] 142 g λi j=>WO.c a j λk l=>If (!k) (h 5 l) (YW.c a b l λm n=>If (!m) (h 1 n) (bE a 8 n λp=>Ix p.a p.len b 3 λq=>bA q 2 n λr=>And (jN r) <| If (!(lM r)) (h 5 n) (aQ i 0 n λs=>aQ i 1 n λt=>aQ i 2 n λu=>aQ i 3 n λv=>YA.c a s t u v n λw x=>And (jN w) <| If (lM w) (h 1 x) (bE a 8 x λz=>Ix z.a z.len b 3 λaa=>And (jN w) <| aR aa 2 (w) x λab=>h 0 ab))))
theorem Yd.o {a b c d e f g h}(i:Yd.v a b c d e f g h):Yd.c a b c d e f g h:=Wa Tryz.func98 (x:=Yd.h) (R0 i)
def Zb.h:Hn:=.q .o3 (.q (.k (.q .o4 (.c (.q .o4 .l) (.q .o5 (.c (.q .o4 .l) (.q .fV (.c (.q .o4 .l) .l))))))) (.q (.o 17) (.q .o9 (.q (.cV (.tail 4 (RI.ops 4) [.op,.op])) .l))))
def Zb.v (a:R2)(b:Int)(c:Hp)(d:Bool->Int->Int->Int->Hp->Prop):Prop:=aV #[.I 0,.I 0] 156 c λe f=>WO.c a f λg h=>If (!g) (aR e 0 (.I 0) h λi=>aR e 1 (.I 0) i λj=>aQ e 0 j λk=>aQ e 1 j λl=>d false k l 5 j) (YW.c a b h λm n=>If (!m) (aR e 0 (.I 0) n λo=>aR e 1 (.I 0) o λp=>aQ e 0 p λq=>aQ e 1 p λr=>d false q r 1 p) (bE a 8 n λt=>Ix t.a t.len b 3 λu=>bA u 2 n λv=>And (jN v) <| If (lM v) (aR e 0 (.I 0) n λw=>aR e 1 (.I 0) w λx=>aQ e 0 x λy=>aQ e 1 x λz=>d false y z 5 x) (bE a 8 n λab=>Ix ab.a ab.len b 3 λac=>bA ac 2 n λad=>Zy.c a b (ad) n λae af ag ah=>aV #[.I 0,.I 0] 156 ah λai aj=>aR ai 0 (.I af) aj λak=>aR ai 1 (.I ag) ak λal=>bE a 8 al λan=>Ix an.a an.len b 3 λao=>And (jN ae) <| aR ao 2 (ae) al λap=>And (jN ae) <| aQ ai 0 ap λaq=>aQ ai 1 ap λar=>aR e 0 (.I aq) ap λau=>aR e 1 (.I ar) au λav=>aQ e 0 av λaw=>aQ e 1 av λax=>d (lM ae) aw ax 0 av)))
theorem Zb.o {a b c d}(e:Zb.v a b c d):Zb.c a b c d:=Wa Tryz.func99 (x:=Zb.h) (R0 e)
def Yy.h:Hn:=.q .o2 (.q (.k (.q .o4 (.c .aL (.q .o3 .aJ)))) (.q .o1 (.q (.q .o6 (.k (.loop [(6,.I),(23,.I)] (.q .o1 (.q (.c .l .l) (.q (.k (.q .o3 (.q (.q .o3 (.c .l .l)) (.q .fV .o4)))) .o2)))))) (.q .o3 .l))))
def Yy.v (a:R2)(b:Int)(c:Hp)(d:Int->Int->Hp->Prop):Prop:=WO.c a c λe f=>If (!e) (d 0 5 f) (If (b<0) (d 0 1 f) (bE a 7 f λh=>W7 [bN,bN] (λi=>i 0 0 f) λj (k:Int) (l:Int) m=>If (l<((h.len:Nat):Int)) (Ix h.a h.len l 1 λn=>fW n m λo=>If (k≥b) (d k 0 m) (bL (b-k) λp=>Xl.c o p m λq r s=>bL (k+q) λt=>bL (l+1) λu=>j t u s)) (d k 0 m)))
theorem Yy.o {a b c d}(e:Yy.v a b c d):Yy.c a b c d:=Wa Tryz.func100 (x:=Yy.h) (R0 e)
def ZA.h:Hn:=.q .o1 (.q (.q .o3 .aK) (.q .o1 (.q (.q .o6 (.k (.loop [(3,.I),(14,.I)] (.q .o1 (.q (.c .l .l) (.q (.k (.q .o3 .o5)) .o2)))))) .aL)))
def ZA.v (a:R2)(b:Hp)(c:aN):Prop:=WO.c a b λd e=>If (!d) (c 0 e) (bE a 7 e λg=>W7 [bN,bN] (λh=>h 0 0 e) λi (j:Int) (k:Int) l=>If (k<((g.len:Nat):Int)) (Ix g.a g.len k 1 λm=>fW m l λn=>Ys.c n l λo p=>bL (j+o) λq=>bL (k+1) λr=>i q r p) (c j l))
theorem ZA.o {a b c}(d:ZA.v a b c):ZA.c a b c:=Wa Tryz.func101 (x:=ZA.h) (R0 d)
def ZC.h:Hn:=.q (.q .o3 (.c .l .l)) (.q .o6 (.k (.loop [(12,.I)] (.q .o1 (.q (.c .l .l) (.q (.k (.q .o3 .o2)) .o2))))))
def ZC.v (a:R2)(b:Hp)(c:aP):Prop:=WO.c a b λd e=>If (!d) (c e) (bE a 7 e λg=>W7 [bN] (λh=>h 0 e) λi (j:Int) k=>If (j<((g.len:Nat):Int)) (Ix g.a g.len j 1 λl=>fW l k λm=>Zc.c m k λn=>bL (j+1) λo=>i o n) (c k))
theorem ZC.o {a b c}(d:ZC.v a b c):ZC.c a b c:=Wa Tryz.func102 (x:=ZC.h) (R0 d)
def Zh.h:Hn:=.q .o1 (.q .o5 .l)
def Zh.v (a:R2)(b:Addr)(c:Hp)(d:aO):Prop:=bM b c λe=>Nz 256<|bL (e.tdiv 256) λf=>Y5.c a f c λg h=>d g h
theorem Zh.o {a b c d}(e:Zh.v a b c d):Zh.c a b c d:=Wa Tryz.func112 (x:=Zh.h) (R0 e)
def QB.h:Hn:=.q .o2 (.q (.cV (.seq [.op,.op,.op,.op,.dA true 3 (RI.ops 3),.op,.dA true 4 (RI.ops 4),.op,.dA true 3 (RI.ops 3),.op,.dA true 3 (RI.ops 3),.op,.dA true 3 (RI.ops 3),.op,.dA true 3 (RI.ops 3),.op,.dA true 3 (RI.ops 3),.op,.dA true 3 (RI.ops 3),.op,.dA true 3 (RI.ops 3),.op,.dA true 3 (RI.ops 3),.op])) .l)
def QB.v (a b c d e:Int)(f:Hp)(g:aO):Prop:=aV #[.I a,.I b,.I c,.I d,.I e] 40 f λh i=>aQ h 0 i λj=>bY (λk l=>bY (λm n=>bY (λo p=>bY (λq r=>bY (λs t=>bY (λu v=>bY (λw x=>bY (λy z=>bY (λaa ab=>bY (λac ad=>g ac ad) λae=>If aa (aQ h 4 ab λaf=>ae (decide (af<=8)) ab) (ae false ab)) λag=>If y (aQ h 4 z λah=>ag (decide (ah≥0)) z) (ag false z)) λai=>If w (aQ h 3 x λaj=>ai (decide (aj<=65536)) x) (ai false x)) λak=>If u (aQ h 3 v λal=>ak (decide (al≥0)) v) (ak false v)) λam=>If s (aQ h 2 t λan=>am (decide (an<=4)) t) (am false t)) λao=>If q (aQ h 2 r λap=>ao (decide (ap≥1)) r) (ao false r)) λaq=>If o (aQ h 1 p λar=>aq (decide (ar<=4)) p) (aq false p)) λau=>If m (aQ h 1 n λav=>au (decide (av≥1)) n) (au false n)) λaw=>If k (aQ h 0 l λax=>Nz 16 <| aw ((ax.tmod 16)==0) l) (aw false l)) λay=>If (j≥32) (aQ h 0 i λaz=>ay (decide (az<=1024)) i) (ay false i)
theorem QB.o {a b c d e f g}(h:QB.v a b c d e f g):QB.c a b c d e f g:=Wa Tryz.func123 (x:=QB.h) (R0 h)
def YW.h:Hn:=.q .o1 (.q (.cV (.seq [.op,.op,.op,.dA true 7 (RI.ops 7),.op])) .l)
def YW.v (a:R2)(b:Int)(c:Hp)(d:aO):Prop:=bY (λe f=>d e f) λg=>If (b≥0) (bE a 8 c λi=>g (decide (b<((i.len:Nat):Int))) c) (g false c)
theorem YW.o {a b c d}(e:YW.v a b c d):YW.c a b c d:=Wa Tryz.func131 (x:=YW.h) (R0 e)
def YA.h:Hn:=.q .o2 (.q (.q .o2 (.k (.q .o2 (.c (.q (.q (.cV (.seq [.op,.op,.op,.op,.dA false 3 (RI.ops 3)])) .aK) (.q (.cV (.held true [8] (.tk [0,1,2,3,4,5,6,7] (.all [(8,.tk [9,10,11,12,13] (.done))])))) (.q .o1 (.k (.q .o2 (.c (.q .o4 .l) (.q .o2 (.c (.q .o8 .l) .l)))))))) (.q .o2 (.c (.q .o5 .l) (.q .o2 (.c (.q .o3 .l) .l)))))))) .aM)
def YA.v (a:R2)(b c d e:Int)(f:Hp)(g:Value->Hp->Prop):Prop:=aV #[.I b,.I c,.I d,.I e] 142 f λh i=>aQ h 0 i λj=>If (j==0) (aQ h 1 i λk=>bY (λl m=>If l (g (.nilIface) m) (dU m λn=>bS a λo=>aT n o 0 λp=>aS n h 1 λq=>aS n h 2 λr=>Z1.c p q r m λs t u=>If (t==0) (g (.iface 260 (.agg #[.I s])) u) (If (t==4) (aQ h 1 u λv=>bL (v+256) λw=>bL (w-1) λx=>Nz 256<|bL (x.tdiv 256) λy=>g (.iface 262 (.agg #[.I y])) u) (g (.nilIface) u)))) λz=>If (k<1) (z true i) (aQ h 1 i λaa=>z (decide (aa>16384)) i)) (If (j==1) (aQ h 3 i λab=>g (.iface 264 (.agg #[.I ab])) i) (If (j==2) (g (.iface 266 (.agg #[])) i) (g (.nilIface) i)))
theorem YA.o {a b c d e f g}(h:YA.v a b c d e f g):YA.c a b c d e f g:=Wa Tryz.func132 (x:=YA.h) (R0 h)
def Zy.h:Hn:=.q .o2 (.q .o7 (.q (.cV (.held true [] (.tk [0,1,2,3,4,5] (.all [(6,.take 7 (.all [(8,.take 9 (.done))]))])))) (.jD [] (.q .o1 (.k (.q .o3 (.c (.q .o2 (.q (.q (.cV (.held true [6] (.tk [0,1,2,3,4,5] (.all [(6,.tk [7,8,9,10,11] (.done))])))) (.q .o2 (.c (.q (.cV (.held true [17] (.tk [0,1,2,3,4,5,6,7,8,9,10,11,12] (.all [(13,.tk [14,15,16] (.all [(17,.done)]))])))) .l) .l))) (.q (.cV (.held true [6] (.tk [0,1,2,3,4,5] (.all [(6,.tk [7,8,9,10,11] (.done))])))) (.q .o8 .l)))) (.q .o3 (.c (.q .o2 (.jD [] (.q (.oq 12) (.c (.q .o9 (.q .o2 (.c (.q .o6 (.q .o5 .l)) .l))) .l)) (.q .o5 .l))) (.q .o3 (.c (.q .o2 (.q (.q (.o 11) (.q .o3 (.c (.q .o6 (.q .o5 .l)) .l))) (.q .o5 .l))) (.q .o3 (.c (.q .o2 (.q (.q .o5 (.q .o2 (.c (.q .o4 .l) .l))) (.q .o5 .l))) (.q .o3 (.c (.q .o2 (.q .o8 (.q .o4 (.q (.cV (.tail 9 (RI.ops 9) [.op])) (.q (.cV (.held true [20] (.tk [0,1,2,3,4,5,6,7,8,9,10,11,12,13,14,15] (.all [(16,.tk [17,18,19] (.all [(20,.done)]))])))) .l))))) (.q .o3 (.c (.q .o2 (.q .o9 (.q (.q .o2 (.c (.q .o4 .l) .l)) (.q (.o 11) .l)))) (.q .o3 (.c (.q .o2 (.q .o9 .l)) (.q .o3 (.c (.q .o2 (.jD [] (.q (.cV (.held true [8] (.tk [0,1,2,3,4,5,6,7] (.all [(8,.tk [9,10,11,12,13] (.done))])))) (.q .o3 (.c .o6 .l))) (.q .o9 (.jD [] (.q .o5 (.c (.cV (.held true [13] (.tk [0,1,2,3,4,5,6,7,8] (.all [(9,.all [(10,.take 11 (.take 12 (.all [(13,.done)])))])])))) .l)) (.q .o6 .l))))) (.q .o3 (.c (.q .o2 (.q .o8 (.q .fV (.q (.cV (.held true [5] (.take 0 (.take 1 (.take 2 (.take 4 (.all [(3,.all [(5,.done)])]))))))) (.q .o6 .l))))) (.q .o3 (.c (.q .o2 (.cV (.tail 10 (RI.ops 10) [.op]))) (.q .o3 (.c (.q .o2 (.q .o9 (.q .o6 .l))) .l)))))))))))))))))))))))) (.q .o3 .l))))
def Zy.v (a:R2)(b:Int)(c:Value)(d:Hp)(e:Value->Int->Int->Hp->Prop):Prop:=aV #[.I 0,.I 0] 156 d λf g=>bE a 8 g λi=>Ix i.a i.len b 3 λj=>dU g λk=>bS a λl=>aT k l 7 λm=>ZH.c a b g λn o=>And (k o) <| Ix m.a m.len n 1 λp=>fW p o λq=>And (k o) <| Jn [] (λr=>aR f 0 (.I 0) r λs=>aR f 1 (.I 0) s λt=>aQ f 0 t λu=>aQ f 1 t λv=>e (.nilIface) u v t) λw=>∃t52:Int,∃is:Bool,kI c 260 [.I t52] [.I 0] is ∧ (If is (aV #[.I 0] 260 o λx y=>dG x (.I t52) y λz=>dU z λaa=>bS (some j) λab=>aU aa ab 0 λac=>aS aa x 0 λad=>Yo.c ac ad z λae af ag=>If (af==0) (dU ag λah=>bS a λai=>aT ah ai 0 λaj=>aS ah x 0 λak=>Ix aj.a aj.len ak 3 λal=>aS ah al 0 λam=>aS ah x 0 λan=>Zd.c a ae am an ag λao ap aq ar=>And (ah ar) <| aR f 0 (.I ap) ar λau=>aR f 1 (.I aq) au λav=>aQ f 0 av λaw=>aQ f 1 av λax=>e (ao) aw ax av) (dU ag λay=>bS (some j) λaz=>aU ay az 0 λa0=>aS ay x 0 λa1=>Yn.c a0 a1 ag λa2 a3 a4=>aQ x 0 a4 λa5=>aR f 0 (.I 0) a4 λa6=>aR f 1 (.I 0) a6 λa7=>aQ f 0 a7 λa8=>aQ f 1 a7 λa9=>e (.iface 270 (.agg #[.I a5,.I a2])) a8 a9 a7)) (∃t99:Int,∃t991:Int,∃is1:Bool,kI c 270 [.I t99,.I t991] [.I 0,.I 0] is1 ∧
 (If is1 (aV #[.I 0,.I 0] 270 o λba bb=>aR ba 0 (.I t99) bb λbc=>aR ba 1 (.I t991) bc λbd=>Jn [] (λbe=>aQ ba 0 be λbf=>aQ ba 1 be λbg=>aR f 0 (.I 0) be λbh=>aR f 1 (.I 0) bh λbi=>aQ f 0 bi λbj=>aQ f 1 bi λbk=>e (.iface 275 (.agg #[.I bf,.I bg])) bj bk bi) λbl=>aQ ba 1 bd λbm=>bE a 0 bd λbo=>aQ ba 0 bd λbp=>Ix bo.a bo.len bp 3 λbq=>aQ bq 2 bd λbr=>If (bm==br) (aQ ba 0 bd λbs=>WB.c q bs bd λbt bu bv=>If (bu==0) (aQ ba 0 bv λbw=>YB.c a b bw bt bv λbx=>aR f 0 (.I 0) bx λbz=>aR f 1 (.I 0) bz λb0=>aQ f 0 b0 λb1=>aQ f 1 b0 λb2=>e (.iface 274 (.agg #[])) b1 b2 b0) (bl bv)) (bl bd)) (∃t135:Int,∃t1351:Int,∃is2:Bool,kI c 275 [.I t135,.I t1351] [.I 0,.I 0] is2 ∧ (If is2 (aV #[.I 0,.I 0] 275 o λb3 b4=>aR b3 0 (.I t135) b4 λb5=>aR b3 1 (.I t1351) b5 λb6=>aQ b3 0 b6 λb7=>aQ b3 1 b6 λb8=>WE.c q b7 b8 b6 λb9 ca cb=>If (((b9.len:Nat):Int)>0) (aQ b3 0 cb λcc=>YB.c a b cc b9 cb λcd=>aR f 0 (.I 0) cd λce=>aR f 1 (.I 0) ce λcf=>aQ f 0 cf λcg=>aQ f 1 cf λch=>e (.iface 274 (.agg #[])) cg ch cf) (aQ b3 0 cb λci=>aQ b3 1 cb λcj=>aR f 0 (.I 0) cb λck=>aR f 1 (.I 0) ck λcl=>aQ f 0 cl λcm=>aQ f 1 cl λcn=>
 e (.iface 277 (.agg #[.I ci,.I cj])) cm cn cl)) (∃t162:Int,∃t1621:Int,∃is3:Bool,kI c 277 [.I t162,.I t1621] [.I 0,.I 0] is3 ∧ (If is3 (aV #[.I 0,.I 0] 277 o λco cp=>aR co 0 (.I t162) cp λcq=>aR co 1 (.I t1621) cq λcr=>aQ co 0 cr λcs=>Yk.c q cs cr λct cu=>If (ct != 0) (aR f 0 (.I 0) cu λcv=>aR f 1 (.I ct) cv λcw=>aQ f 0 cw λcx=>aQ f 1 cw λcy=>e (.nilIface) cx cy cw) (aQ co 0 cu λcz=>aQ co 1 cu λc0=>aR f 0 (.I 0) cu λc1=>aR f 1 (.I 0) c1 λc2=>aQ f 0 c2 λc3=>aQ f 1 c2 λc4=>e (.iface 275 (.agg #[.I cz,.I c0])) c3 c4 c2)) (∃is4:Bool,kI c 274 [] [] is4 ∧ (If is4 (aV #[] 274 o λc5 c6=>bE (some j) 1 c6 λc8=>Ix c8.a c8.len 0 2 λc9=>aQ c9 0 c6 λda=>aX c9 1 c6 λdb=>aV #[.I 0,.slice none 0 0] 130 c6 λdc dd=>aR dc 0 (.I da) dd λde=>aR dc 1 (.slice db.a db.len db.cap) de λdf=>bS (some j) λdg=>aR dg 1 (.slice none 0 0) df λdh=>bF (some j) 0 dh λdj=>aQ dc 0 dh λdk=>aX dc 1 dh λdl=>eX dl 1 1 (dl.len:Nat) (dl.cap:Nat) λdm=>Yi.c dj dk dm dh λdn dp=>dU dp λdq=>aT dq dc 1 λdr=>Ix dr.a dr.len 0 1 λds=>gP dq bN ds λ(dt:Int)=>bS a λdu=>aT dq du 0 λdv=>aS dq dc 0 λdw=>Ix dv.a dv.len dw 3 λdx=>aS dq dx 0 λdy=>
 aS dq dc 0 λdz=>Zd.c a dt dy dz dp λd0 d1 d2 d3=>And (dq d3) <| aR f 0 (.I d1) d3 λd4=>aR f 1 (.I d2) d4 λd5=>aQ f 0 d5 λd6=>aQ f 1 d5 λd7=>e (d0) d6 d7 d5) (∃t217:Int,∃is5:Bool,kI c 262 [.I t217] [.I 0] is5 ∧ (If is5 (aV #[.I 0] 262 o λd8 d9=>dG d8 (.I t217) d9 λea=>aQ d8 0 ea λeb=>WT.c q eb 1 ea λec ed ee=>If (ed != 0) (aR f 0 (.I 0) ee λef=>aR f 1 (.I ed) ef λeg=>aQ f 0 eg λeh=>aQ f 1 eg λei=>e (.nilIface) eh ei eg) (bL (ec*256) λej=>aQ d8 0 ee λek=>bL (ek*256) λel=>Zd.c a ej el (-1) ee λem en eo ep=>aR f 0 (.I en) ep λeq=>aR f 1 (.I eo) eq λer=>aQ f 0 er λes=>aQ f 1 er λet=>e (em) es et er)) (∃t240:Int,∃is6:Bool,kI c 264 [.I t240] [.I 0] is6 ∧ (If is6 (aV #[.I 0] 264 o λeu ev=>dG eu (.I t240) ev λew=>aQ eu 0 ew λex=>Zz.c a b ex ew λey ez e0 e1=>aR f 0 (.I ez) e1 λe2=>aR f 1 (.I e0) e2 λe3=>aQ f 0 e3 λe4=>aQ f 1 e3 λe5=>e (ey) e4 e5 e3) (∃t250:Int,∃t2501:Int,∃is7:Bool,kI c 282 [.I t250,.I t2501] [.I 0,.I 0] is7 ∧ (If is7 (aV #[.I 0,.I 0] 282 o λe6 e7=>aR e6 0 (.I t250) e7 λe8=>aR e6 1 (.I t2501) e8 λe9=>Jn [] (λfa=>bE (some j) 1 fa λfc=>eX fc 2 1 (fc.len:Nat) (fc.cap:Nat) λfd=>bS (some j) λfe=>aR fe 1 (.slice fd.a fd.len fd.cap) fa λff=>Jn [] (λfg=>
 W4.c a b fg λfh fi=>aR f 0 (.I 0) fi λfj=>aR f 1 (.I 0) fj λfk=>aQ f 0 fk λfl=>aQ f 1 fk λfm=>e (fh) fl fm fk) λfn=>bF (some j) 0 ff λfp=>Yp.c fp ff λfq fr=>If fq (dU fr λfs=>bS (some j) λft=>aT fs ft 1 λfu=>bS (some j) λfv=>aU fs fv 0 λfw=>Xa.c fw fr λfx fy=>And (fs fy) <| App fu 2 32 130 [.I 0,.slice none 0 0] fx fy λfz f0=>And (fs f0) <| bS (some j) λf1=>aR f1 1 (.slice fz.a fz.len fz.cap) f0 λf2=>fn f2) (fn fr)) λf3=>dU e9 λf4=>bS (some j) λf5=>aU f4 f5 0 λf6=>aS f4 e6 0 λf7=>aS f4 e6 1 λf8=>YQ.c f6 f7 f8 e9 λf9 ga gb=>If (((f9.len:Nat):Int)>0) (aQ e6 0 gb λgc=>YB.c a b gc f9 gb λgd=>f3 gd) (f3 gb)) (∃is8:Bool,kI c 285 [] [] is8 ∧ (If is8 (aV #[] 285 o λge gf=>bE (some j) 1 gf λgh=>Ix gh.a gh.len 0 2 λgi=>aQ gi 0 gf λgj=>aX gi 1 gf λgk=>aV #[.I 0,.slice none 0 0] 130 gf λgl gm=>aR gl 0 (.I gj) gm λgn=>aR gl 1 (.slice gk.a gk.len gk.cap) gn λgo=>bE (some j) 1 go λgq=>eX gq 2 1 (gq.len:Nat) (gq.cap:Nat) λgr=>Wp.c gr go λgs gt=>bS (some j) λgu=>aR gu 1 (.slice gs.a gs.len gs.cap) gt λgv=>dU gv λgw=>aS gw gl 0 λgx=>aT gw gl 1 λgy=>ZH.c a b gv λgz g0=>And (gw g0) <| ZB.c a gz gx gy g0 λg1=>
 W4.c a b g1 λg2 g3=>aR f 0 (.I 0) g3 λg4=>aR f 1 (.I 0) g4 λg5=>aQ f 0 g5 λg6=>aQ f 1 g5 λg7=>e (g2) g6 g7 g5) (∃t332:Int,∃t3321:Int,∃is9:Bool,kI c 289 [.I t332,.I t3321] [.I 0,.I 0] is9 ∧ (If is9 (aV #[.I 0,.I 0] 289 o λg8 g9=>aR g8 0 (.I t332) g9 λha=>aR g8 1 (.I t3321) ha λhb=>bE a 7 hb λhd=>aQ g8 1 hb λhe=>Ix hd.a hd.len he 1 λhf=>fW hf hb λhg=>aQ g8 0 hb λhh=>WR.c hg hh hb λhi hj=>w hj) (∃is10:Bool,kI c 266 [] [] is10 ∧ (If is10 (aV #[] 266 o λhk hl=>bF (some j) 0 hl λhn=>XS.c hn hl λho hp=>bS (some j) λhq=>aR hq 1 (.slice ho.a ho.len ho.cap) hp λhr=>W4.c a b hr λhs ht=>aR f 0 (.I 0) ht λhu=>aR f 1 (.I 0) hu λhv=>aQ f 0 hv λhw=>aQ f 1 hv λhx=>e (hs) hw hx hv) (w o))))))))))))))))))))))
theorem Zy.o {a b c d e}(f:Zy.v a b c d e):Zy.c a b c d e:=Wa Tryz.func133 (x:=Zy.h) (R0 f)
def ZH.h:Hn:=.q .o1 (.q .o8 .l)
def ZH.v (a:R2)(b:Int)(c:Hp)(d:aN):Prop:=bE a 7 c λf=>Nz ((f.len:Nat):Int) <| d (b.tmod ((f.len:Nat):Int)) c
theorem ZH.o {a b c d}(e:ZH.v a b c d):ZH.c a b c d:=Wa Tryz.func170 (x:=ZH.h) (R0 e)
def Zd.h:Hn:=.q .o2 (.q (.cV (.held true [12] (.tk [0,1,2,3,4,5,6,7,8,9] (.all [(10,.take 11 (.all [(12,.done)]))])))) (.q .o4 .l))
def Zd.v (a:R2)(b c d:Int)(e:Hp)(f:Value->Int->Int->Hp->Prop):Prop:=aV #[.I 0,.I 0] 156 e λg h=>dU h λi=>bS a λj=>gP i .m (j.add 9) λ(k:Option Nat)=>Yl.c a b h λl m=>And (i m) <| kR .i64 (.ag 4) k b (b,c,d,l) m λn=>aR g 0 (.I b) n λo=>aR g 1 (.I 0) o λp=>aQ g 0 p λq=>aQ g 1 p λr=>f (.nilIface) q r p
theorem Zd.o {a b c d e f}(g:Zd.v a b c d e f):Zd.c a b c d e f:=Wa Tryz.func172 (x:=Zd.h) (R0 g)
def YB.h:Hn:=.cV (.held true [20] (.tk [0,1,2,3,4,5,6,7,8,9,10,11,12,13,14,15] (.all [(16,.all [(17,.take 18 (.take 19 (.all [(20,.done)])))])])))
def YB.v (a:R2)(b c:Int)(d:Sl)(e:Hp)(f:aP):Prop:=dU e λg=>bS a λh=>aT g h 8 λi=>bS a λj=>aT g j 8 λk=>Ix k.a k.len b 3 λl=>aT g l 1 λm=>aV #[.I c,.slice d.a d.len d.cap] 130 e λn o=>And (g o) <| App m 2 32 130 [.I 0,.slice none 0 0] ⟨some n,1,1⟩ o λp q=>And (g q) <| Ix i.a i.len b 3 λr=>aR r 1 (.slice p.a p.len p.cap) q λs=>f s
theorem YB.o {a b c d e f}(g:YB.v a b c d e f):YB.c a b c d e f:=Wa Tryz.func175 (x:=YB.h) (R0 g)
def Zz.h:Hn:=.q .o2 (.q (.o 12) (.q (.q .o2 (.c (.jD [] (.q .o4 (.q .o2 (.c (.q (.o 16) (.q (.cV (.seq [.op,.op,.op,.dA true 2 [.op,.op],.op,.dA true 3 (RI.ops 3)])) (.c (.q .o3 .l) .l))) .l))) (.q .o3 .l)) .l)) (.q .o6 (.q (.q .o3 (.c (.q .o9 .l) .l)) (.q .o7 (.q .o8 .l))))))
def Zz.v (a:R2)(b c:Int)(d:Hp)(e:Value->Int->Int->Hp->Prop):Prop:=aV #[.I 0,.I 0] 156 d λf g=>bI a 9 g λi=>Lk .i64 (.ag 4) i c g λj=>aV #[.I 0,.I 0,.I 0,.I 0] 76 g λk l=>aR k 0 (.I ((j.getD (0,0,0,0)).1)) l λm=>aR k 1 (.I ((j.getD (0,0,0,0)).2.1)) m λn=>aR k 2 (.I ((j.getD (0,0,0,0)).2.2.1)) n λo=>aR k 3 (.I ((j.getD (0,0,0,0)).2.2.2)) o λp=>If (!j.isSome) (Jn [] (λq=>aR f 0 (.I 0) q λr=>aR f 1 (.I 8) r λs=>aQ f 0 s λt=>aQ f 1 s λu=>e (.nilIface) t u s) λv=>Yl.c a c p λw x=>If (w≥0) (bE a 7 x λz=>Ix z.a z.len w 1 λaa=>fW aa x λab=>YZ.c ab c x λac ad ae af=>bY (λag ah=>bY (λai aj=>If ai (aR f 0 (.I 0) aj λak=>aR f 1 (.I 9) ak λal=>aQ f 0 al λam=>aQ f 1 al λan=>e (.nilIface) am an al) (v aj)) λao=>If ag (ao (ad==c) ah) (ao false ah)) λap=>If (ae==0) (ap (decide (ac≥0)) af) (ap false af)) (v x)) (bI a 9 p λar=>mh .i64 (.ag 4) ar c p λau=>aQ k 2 au λav=>If (av<0) (Nz 256<|bL (c.tdiv 256) λaw=>aQ k 3 au λax=>aR f 0 (.I 0) au λay=>aR f 1 (.I 0) ay λaz=>aQ f 0 az λa0=>aQ f 1 az λa1=>e (.iface 289 (.agg #[.I aw,.I ax])) a0 a1 az) (aQ k 2 au λa2=>aV #[.I c] 3 au λa3 a4=>YB.c a b a2 ⟨some a3,1,1⟩ a4 λa5=>aQ k 2 a5 λa6=>aR f 0 (.I 0) a5 λa7=>
 aR f 1 (.I 0) a7 λa8=>aQ f 0 a8 λa9=>aQ f 1 a8 λba=>e (.iface 282 (.agg #[.I a6,.I c])) a9 ba a8))
theorem Zz.o {a b c d e}(f:Zz.v a b c d e):Zz.c a b c d e:=Wa Tryz.func180 (x:=Zz.h) (R0 f)
def W4.h:Hn:=.q .o1 (.q (.q .fV .aK) (.q .o3 .l))
def W4.v (a:R2)(b:Int)(c:Hp)(d:Value->Hp->Prop):Prop:=bE a 8 c λf=>Ix f.a f.len b 3 λg=>aX g 1 c λh=>If (((h.len:Nat):Int)==0) (d (.nilIface) c) (d (.iface 285 (.agg #[])) c)
theorem W4.o {a b c d}(e:W4.v a b c d):W4.c a b c d:=Wa Tryz.func184 (x:=W4.h) (R0 e)
def ZB.h:Hn:=.q .o1 (.q .o7 (.q (.q .o4 (.k (.loop [(23,.I)] (.q .o1 (.q (.c .l .l) (.q (.k (.q .o3 (.q .o4 (.o 11)))) .o2)))))) (.jD [] (.q (.oq 9) (.c (.q (.cV (.held true [] (.tk [0,1,2,3,4,5,6,7,8,9,10] (.all [(11,.tk [12,13,14,15,16] (.done))])))) (.q (.cV (.seq [.op,.op,.dA true 2 [.op,.op]])) (.c .l .l))) .l)) (.q .o3 (.k (.loop [(72,.I)] (.q .o1 (.q (.c .l .l) (.q (.k (.q .o5 (.q .o3 (.c (.cV (.tail 10 (RI.ops 10) [.op])) .l)))) .o2)))))))))
def ZB.v (a:R2)(b c:Int)(d:Sl)(e:Hp)(f:aP):Prop:=aV #[.I c,.slice d.a d.len d.cap] 130 e λg h=>bS a λi=>aX i 7 h λj=>Mk ((j.len:Nat):Int) ((j.len:Nat):Int) 24 69 [.slice none 0 0] h λk l=>aX g 1 l λm=>W7 [bN] (λn=>n 0 l) λo (p:Int) q=>If (p<((m.len:Nat):Int)) (Ix m.a m.len p 1 λr=>bM r q λs=>Yl.c a s q λt u=>Ix k.a k.len t 1 λv=>jn v u λw=>aV #[.I s] 3 u λx y=>App w 1 8 3 [.I 0] ⟨some x,1,1⟩ y λz aa=>Ix k.a k.len t 1 λab=>dG ab (.slice z.a z.len z.cap) aa λac=>bL (p+1) λad=>o ad ac) (Jn [] (λae=>W7 [bN] (λaf=>af 0 ae) λag (ah:Int) ai=>If (ah<((k.len:Nat):Int)) (Ix k.a k.len ah 1 λaj=>jn aj ai λak=>If (((ak.len:Nat):Int)>0) (bE a 7 ai λam=>Ix am.a am.len ah 1 λan=>fW an ai λao=>aQ g 0 ai λap=>WC.c ao ap ak ai λaq ar=>bL (ah+1) λau=>ag au ar) (bL (ah+1) λav=>ag av ai)) (f ai)) λaw=>Ix k.a k.len b 1 λax=>jn ax q λay=>aX g 1 q λaz=>If (((ay.len:Nat):Int)==((az.len:Nat):Int)) (dU q λa0=>bS a λa1=>aT a0 a1 7 λa2=>Ix a2.a a2.len b 1 λa3=>gP a0 .p a3 λ(a4:R2)=>aS a0 g 0 λa5=>aT a0 g 1 λa6=>WJ.c a4 a5 a6 q λa7 a8 a9=>And (a0 a9) <| bY (λba bb=>If ba (f bb) (aw bb)) λbc=>If a7 (bc (a8==0) a9) (bc false a9)) (aw q))
theorem ZB.o {a b c d e f}(g:ZB.v a b c d e f):ZB.c a b c d e f:=Wa Tryz.func186 (x:=ZB.h) (R0 g)
end Go.Proofs
namespace Go.Ar
open Go Go.Vc Go.Proofs
def nu:Option Ph->Value
 | none=>.nilIface
 | some (.take k)=>.iface 260 (.agg #[.int .i64 (k:Int)])
 | some (.cN k w)=>.iface 270 (.agg #[.int .i64 (k:Int),.int .i64 (w:Int)])
 | some (.cO k w)=>.iface 275 (.agg #[.int .i64 (k:Int),.int .i64 (w:Int)])
 | some (.grow k w)=>.iface 277 (.agg #[.int .i64 (k:Int),.int .i64 (w:Int)])
 | some .fill=>.iface 274 (.agg #[])
 | some (.eV m)=>.iface 262 (.agg #[.int .i64 (m:Int)])
 | some (.find x)=>.iface 264 (.agg #[.int .i64 x])
 | some (.put k x)=>.iface 282 (.agg #[.int .i64 (k:Int),.int .i64 x])
 | some .back=>.iface 285 (.agg #[])
 | some (.dJ s a)=>.iface 289 (.agg #[.int .i64 s,.int .i64 a])
 | some .drain=>.iface 266 (.agg #[])
theorem xo (p:Option Ph):jN (nu p):=by
 cases p with
 | none=>exact .inl rfl
 | some p=>cases p<;>exact .inr ⟨_,_,rfl⟩
theorem Aa (p:Option Ph):lM (nu p)=p.isNone:=by
 cases p with
 | none=>rfl
 | some p=>cases p<;>rfl
inductive lh where
 | hd|dD|sp|fX|cL|live
 | ar (k:Nat)
 | ca (k:Nat)
 | hn (k:Nat)
 deriving DecidableEq
structure eB where
 c:gX
 h:Sl
structure dS where
 p:Nat
 hs:Nat
 lm:Nat
 dD:Sl
 fX:Sl
 cL:Sl
 ys:List Lay
 ts:List eB
def sZ (L:dS)(c:Cf):List Value:=[.slice L.dD.a L.dD.len L.dD.cap,.int .i64 (c.aF:Int),.int .i64 (c.iq:Int),.int .i64 (c.threads:Int),.int .i64 (c.dB:Int),.int .i64 (c.room:Int),
 .pointer (some ⟨L.hs,0,none⟩),.slice L.fX.a L.fX.len L.fX.cap,.slice L.cL.a L.cL.len L.cL.cap,.map (some L.lm)]
def jM (x:eB×Th):List Value:=[.pointer (some ⟨x.1.c.p,0,none⟩),.slice x.1.h.a x.1.h.len x.1.h.cap,nu x.2.ph]
def gY (ts:List eB)(bQ:List Th):List Value:=(ts.zip bQ).flatMap jM
theorem Gm:∀{ts:List eB} {bQ:List Th},ts.length=bQ.length->(gY ts bQ).length=bQ.length*3
 | [],[],_=>rfl
 | x::ts,h::bQ,e=>by
  have e1:gY (x::ts) (h::bQ)=jM (x,h)++gY ts bQ:=rfl;have a:(jM (x,h)).length=3:=rfl;rw[e1,zK,Gm (by simpa using e),a,zP];omega
 | [],_::_,e=>by simp at e
 | _::_,[],e=>by simp at e
theorem AT:∀{ts:List eB} {bQ:List Th} {i:Nat} {x:eB} {h:Th},ts[i]?=some x->bQ[i]?=some h->∀{d:Nat},d<3->(gY ts bQ)[3*i+d]?=(jM (x,h))[d]?
 | [],_,_,_,_,h1,_,_,_=>by simp at h1
 | _::_,[],_,_,_,_,h2,_,_=>by simp at h2
 | y::ts,g::bQ,0,x,h,h1,h2,d,hd=>by
  have e1:gY (y::ts) (g::bQ)=jM (y,g)++gY ts bQ:=rfl;have a:(jM (y,g)).length=3:=rfl;simp at h1 h2;subst h1;subst h2;rw[e1,zd O];congr 1;omega
 | y::ts,g::bQ,i+1,x,h,h1,h2,d,hd=>by
  have e1:gY (y::ts) (g::bQ)=jM (y,g)++gY ts bQ:=rfl;have a:(jM (y,g)).length=3:=rfl;rw[e1,zo O,a,show 3*(i+1)+d-3=3*i+d by omega];exact AT (by simpa using h1) (by simpa using h2) hd
theorem yu:∀{ts:List eB} {bQ:List Th} {i:Nat} {x:eB} {h:Th},ts[i]?=some x->bQ[i]?=some h->∀{d:Nat} {v:Value} {x':eB} {h':Th},d<3->jM (x',h')=(jM (x,h)).set d v →
 (gY ts bQ).set (3*i+d) v=gY (ts.set i x') (bQ.set i h')
 | [],_,_,_,_,h1,_,_,_,_,_,_,_=>by simp at h1
 | _::_,[],_,_,_,_,h2,_,_,_,_,_,_=>by simp at h2
 | y::ts,g::bQ,0,x,h,h1,h2,d,v,x',h',hd,e=>by
  have e1:gY (y::ts) (g::bQ)=jM (y,g)++gY ts bQ:=rfl;have a:gY ((y::ts).set 0 x') ((g::bQ).set 0 h')=jM (x',h')++gY ts bQ:=rfl;have b:(jM (y,g)).length=3:=rfl;simp at h1 h2;subst h1;subst h2;rw[e1,a,List.set_append_left _ _ O,e,show 3*0+d=d by omega]
 | y::ts,g::bQ,i+1,x,h,h1,h2,d,v,x',h',hd,e=>by
  have e1:gY (y::ts) (g::bQ)=jM (y,g)++gY ts bQ:=rfl;have a:gY ((y::ts).set (i+1) x') ((g::bQ).set (i+1) h')=jM (y,g)++gY (ts.set i x') (bQ.set i h'):=rfl;have b:(jM (y,g)).length=3:=rfl;rw[e1,a,xX _ _ O,b,show 3*(i+1)+d-3=3*i+d by omega];rw[yu (by simpa using h1) (by simpa using h2) hd e]
def oL (y:Option Lay)(a:Option AR):Hp->Rg->Prop:=λσ F=>match y,a with
 | some Y,some A=>cX σ F Y A (cF A Y)
 | _,_=>True
def qf (x:Option eB)(h:Option Th)(tb:List bW)(bud:Nat):Hp->Rg->Prop:=λσ F=>match x,h with
 | some x,some h=>eD σ F x.c tb bud h.ls
 | _,_=>True
def pf (x:Option eB)(h:Option Th):Hp->Rg->Prop:=λσ F=>match x,h with
 | some x,some h=>ik x.h h.bP σ F
 | _,_=>True
def CH (H:Hw)(L:dS):lh->Hp->Rg->Prop
 | .hd=>iF L.p (sZ L H.cf)
 | .dD=>cR L.dD 3 (fZ H.tb)
 | .sp=>λσ F=>dE σ F L.hs H.sp
 | .fX=>cR L.fX 1 (eW (L.ys.map (·.p)))
 | .cL=>bR L.cL 3 (gY L.ts H.bQ)
 | .live=>jZ L.lm .i64 (.ag 4) H.live
 | .ar k=>oL L.ys[k]? H.bT[k]?
 | .ca t=>qf L.ts[t]? H.bQ[t]? H.tb H.cf.dB
 | .hn t=>pf L.ts[t]? H.bQ[t]?
theorem oL.loc (y:Option Lay)(a:Option AR):dR (oL y a):=by
 intro σ σ' F G h hz hs;unfold oL at *;split at h
 ·exact cX.loc _ _ _ _ h hz hs
 ·trivial
theorem qf.loc (x:Option eB)(h:Option Th)(tb:List bW)(bud:Nat):dR (qf x h tb bud):=by
 intro σ σ' F G h hz hs;unfold qf at *;split at h
 ·exact eD.loc _ _ _ _ h hz hs
 ·trivial
theorem pf.loc (x:Option eB)(h:Option Th):dR (pf x h):=by
 intro σ σ' F G h hz hs;unfold pf at *;split at h
 ·exact ik.loc _ _ _ _ _ _ h hz hs
 ·trivial
theorem CH.loc {H:Hw}{L:dS}:∀i,dR (CH H L i)
 | .hd=>iF.loc _ _
 | .dD=>cR.loc _ _ _
 | .sp=>dE.loc
 | .fX=>cR.loc _ _ _
 | .cL=>bR.loc _ _ _
 | .live=>jZ.loc _ _ _ _
 | .ar k=>oL.loc _ _
 | .ca t=>qf.loc _ _ _ _
 | .hn t=>pf.loc _ _
structure HS (L:dS) (H:Hw):Prop where
 ys:L.ys.length=H.bT.length
 hs:∀Y∈L.ys,Y.hs=L.hs
 ts:L.ts.length=H.bQ.length
 a1:1<=H.bT.length
 a2:H.bT.length<=4
 t1:1<=H.bQ.length
 t2:H.bQ.length<=4
 tb:∀A∈H.bT,A.tb=H.tb
structure HH (σ:Hp) (F:Rg) (L:dS) (H:Hw):Prop where
 s:HS L H
 sep:Sep (CH H L) σ F
 g:Gl σ
 gd:Gd σ
 o:iW F
 o2:¬F 1
variable {σ:Hp}{F:Rg}{L:dS}{H:Hw}{t k:Nat}
theorem HH.bK (h:HH σ F L H){σ':Hp}(e:bO σ σ'):HH σ' F L H:=⟨h.s,(Sep.loc CH.loc).bK h.sep e,h.g.bK e,h.gd.bK e,h.o,h.o2⟩
theorem HH.bU (h:HH σ F L H){σ':Hp}{T:Rg}(e:Ext T σ σ')(hT:∀b,b<σ.size->F b->¬T b)(hg:iW T)(hg2:¬T 1):HH σ' F L H:=⟨h.s,(Sep.loc CH.loc).bU h.sep e hT,h.g.bU e hg,h.gd.bU e hg2,h.o,h.o2⟩
theorem DM {σ:Hp}(g:Gd σ):1<σ.size:=g.lt
theorem HH.mono (h:HH σ F L H){G:Rg}(hs:∀b,b<σ.size->F b->G b)(o:iW G)(o2:¬G 1):HH σ G L H:=⟨h.s,(Sep.loc CH.loc).mono h.sep hs,h.g,h.gd,o,o2⟩
theorem HH.oG (h:HH σ F L H):iW (Grow F σ):=h.o.grow h.g
theorem HH.qN (h:HH σ F L H):¬Grow F σ 1:=λa=>by
 rcases a with a|a
 ·exact h.o2 a
 ·have:=DM h.gd;omega
theorem HH.sub (h:HH σ F L H){G:Rg}(hs:∀b,b<σ.size->F b->G b)(hg:∀b,G b->F b\/σ.size<=b):HH σ G L H:=
 h.mono hs (h.oG.sub hg) λa=>h.qN (hg _ a)
theorem HH.xG {v v':Hp}{G T:Rg}{L0:dS}{H0:Hw}(h0:HH σ F L0 H0)(h:HH v G L H)(e:Ext T v v')(hT:∀b,T b->σ.size<=b)(hG:∀b,b<v.size->G b->¬T b):HH v' G L H:=
 h.bU e hG (h0.oG.sub λb a=>.inr (hT b a)) λa=>h0.qN (.inr (hT _ a))
theorem HH.grown {σ':Hp}{R:Rg}{L':dS}{H':Hw}(h:HH σ F L H)(h':HH σ' R L' H')(hr:∀b,b<σ'.size->R b->Grow F σ b):HH σ' (Grow F σ) L' H':=h'.mono hr h.oG h.qN
theorem HH.cut (h:HH σ F L H):HH σ (Cut F σ) L H:=h.sub (λb a d=>⟨d,a⟩) λb a=>.inl a.1
theorem HH.mq (h:HH σ F L H)(i:lh):∃G:Rg,(∀b,G b->F b)/\CH H L i σ G/\(∀j,j≠i->∃D:Rg,(∀b,D b->F b)/\(∀b,D b->¬G b)/\CH H L j σ D) ∧
 ∀(σ':Hp) (H':Hw) (L':dS) (G':Rg),HS L' H'->(∀j,j≠i->CH H' L' j=CH H L j)->Ext G σ σ'->(∀b,G' b->Grow G σ b)->CH H' L' i σ' G' →
  Ext F σ σ'/\HH σ' (λb=>F b/\b<σ.size/\¬G b\/G' b) L' H':=by
 obtain⟨G,r,u,hd,d⟩:=h.sep.kh CH.loc i;refine⟨G,r,u,hd,λσ' H' L' G' y w e s x=>?_⟩;have p:=e.sub r;have m:∀b,(F b/\b<σ.size/\¬G b\/G' b)->Grow F σ b:=λb a=>by
  rcases a with a|a
  ·exact .inl a.1
  ·exact(s b a).imp (r b) id
 refine⟨p,y,d σ' (CH H' L') G' w e s x (CH.loc _),h.g.bU p h.o,h.gd.bU p h.o2,λb a=>(h.o.grow h.g) b (m b a),λa=>?_⟩;rcases m _ a with h1|h1
 ·exact h.o2 h1
 ·have:=DM h.gd;omega
theorem _root_.Go.Vc.Sep.tu {L:Type}{C:L->Hp->Rg->Prop}{σ:Hp}{F:Rg}(hC:∀i,dR (C i))(h:Sep C σ F)(i j:L)(hij:i≠j)(N:Rg)(hN:∀b,b<σ.size->F b->¬N b):∃G D:Rg,(∀b,G b->F b)/\(∀b,D b->F b)/\(∀b,G b->¬D b)/\C i σ G/\C j σ D/\(∀m,m≠i->m≠j->∃E:Rg,(∀b,E b->F b)/\(∀b,E b->¬(G b\/D b))/\C m σ E) ∧
 ∀(σ':Hp) (C':L->Hp->Rg->Prop) (G' D':Rg),(∀k,k≠i->k≠j->C' k=C k)->Ext (λb=>G b\/D b) σ σ'->(∀b,G' b->(G b\/D b)\/N b)->(∀b,D' b->(G b\/D b)\/N b)->(∀b,G' b->¬D' b)->C' i σ' G'->C' j σ' D'->(∀k,dR (C' k)) →
 Sep C' σ' λb=>F b/\b<σ.size/\¬(G b\/D b)\/G' b\/D' b:=by
 obtain⟨ρ,h⟩:=h
 let G:Rg:=λb=>F b/\ρ b=i
 let D:Rg:=λb=>F b/\ρ b=j
 refine⟨G,D,λb a=>a.1,λb a=>a.1,λb w u=>hij (w.2.symm.trans u.2),h i,h j,λm w u=>⟨λb=>F b/\ρ b=m,λb a=>a.1,λb a d=>d.elim (λx=>w (a.2.symm.trans x.2)) λx=>u (a.2.symm.trans x.2),h m⟩,λσ' C' G' D' H e J B hd z A y=>?_⟩
 open Classical in
 refine⟨λb=>if G' b then i else if D' b then j else ρ b,λk=>?_⟩
 by_cases hki:k=i
 ·subst hki;exact(y _).mono z λb _ a=>⟨.inr (.inl a),zB a⟩
 by_cases hkj:k=j
 ·subst hkj;exact(y _).mono A λb _ a=>⟨.inr (.inr a),by show(if G' b then i else if D' b then k else ρ b)=k;rw[zA λd=>hd b d a,zB a]⟩
 ·rw[H k hki hkj];refine hC k _ _ _ _ (h k) e.1 λb a g=>?_;have s:¬(G b\/D b):=by
   rintro(d|d)
   ·exact hki (g.2.symm.trans d.2)
   ·exact hkj (g.2.symm.trans d.2)
  have r:¬G' b:=λd=>(J b d).elim s (hN b a g.1);have p:¬D' b:=λd=>(B b d).elim s (hN b a g.1);exact⟨⟨.inl ⟨g.1,a,s⟩,by show(if G' b then i else if D' b then j else ρ b)=k;rw[zA r,zA p];exact g.2⟩,e.2 b a s⟩
theorem HH.px (h:HH σ F L H)(i j:lh)(hij:i≠j)(N:Rg)(hN:∀b,b<σ.size->F b->¬N b)(oN:iW N)(oN2:¬N 1):∃G D:Rg,(∀b,G b->F b)/\(∀b,D b->F b)/\(∀b,G b->¬D b)/\CH H L i σ G/\CH H L j σ D/\(∀m,m≠i->m≠j->∃E:Rg,(∀b,E b->F b)/\(∀b,E b->¬(G b\/D b))/\CH H L m σ E) ∧
 ∀(σ':Hp) (H':Hw) (L':dS) (G' D':Rg),HS L' H'->(∀m,m≠i->m≠j->CH H' L' m=CH H L m)->Ext (λb=>G b\/D b) σ σ'->(∀b,G' b->(G b\/D b)\/N b)->(∀b,D' b->(G b\/D b)\/N b)->(∀b,G' b->¬D' b)->CH H' L' i σ' G'->CH H' L' j σ' D' →
  Ext F σ σ'/\HH σ' (λb=>F b/\b<σ.size/\¬(G b\/D b)\/G' b\/D' b) L' H':=by
 obtain⟨G,D,s,u,hd,B,J,p,d⟩:=h.sep.tu CH.loc i j hij N hN;refine⟨G,D,s,u,hd,B,J,p,λσ' H' L' G' D' P C e A z w M K=>?_⟩;have x:Ext F σ σ':=e.sub λb a=>a.elim (s b) (u b);have r:∀b,(F b/\b<σ.size/\¬(G b\/D b)\/G' b\/D' b)->F b\/N b:=λb a=>by
  rcases a with a|a|a
  ·exact .inl a.1
  ·exact(A b a).imp (λy=>y.elim (s b) (u b)) id
  ·exact(z b a).imp (λy=>y.elim (s b) (u b)) id
 refine⟨x,P,d σ' (CH H' L') G' D' C e A z w M K CH.loc,h.g.bU x h.o,h.gd.bU x h.o2,λb a=>(r b a).elim (h.o b) (oN b),λa=>?_⟩;exact(r _ a).elim h.o2 oN2
theorem HH.mT (h:HH σ F L H):iW (λb=>σ.size<=b)/\¬(σ.size<=1):=⟨h.oG.sub λb a=>.inr a,λa=>h.qN (.inr a)⟩
theorem HH.pI (h:HH σ F L H)(i j:lh)(hij:i≠j):∃G D:Rg,(∀b,G b->F b)/\(∀b,D b->F b)/\(∀b,G b->¬D b)/\CH H L i σ G/\CH H L j σ D/\(∀m,m≠i->m≠j->∃E:Rg,(∀b,E b->F b)/\(∀b,E b->¬(G b\/D b))/\CH H L m σ E) ∧
 ∀(σ':Hp) (H':Hw) (L':dS) (G' D':Rg),HS L' H'->(∀m,m≠i->m≠j->CH H' L' m=CH H L m)->Ext (λb=>G b\/D b) σ σ'->(∀b,G' b->(G b\/D b)\/σ.size<=b)->(∀b,D' b->(G b\/D b)\/σ.size<=b)->(∀b,G' b->¬D' b)->CH H' L' i σ' G'->CH H' L' j σ' D' →
  Ext F σ σ'/\HH σ' (λb=>F b/\b<σ.size/\¬(G b\/D b)\/G' b\/D' b) L' H':=
 h.px i j hij _ (λb a _=>O) h.mT.1 h.mT.2
theorem HH.hd (h:HH σ F L H):bX σ L.p (sZ L H.cf):=by obtain⟨G,b,a⟩:=h.sep.get .hd;exact a.2
theorem HH.jI (h:HH σ F L H):cR L.dD 3 (fZ H.tb) σ F:=by
 obtain⟨G,d,a⟩:=h.sep.get .dD;exact aH.mono a λb _ a=>d b a
theorem HH.nS (h:HH σ F L H):L.dD.len=H.tb.length:=by
 have:=h.jI.1;rw[KD]at this;omega
theorem HH.nB (h:HH σ F L H):cR L.fX 1 (eW (L.ys.map (·.p))) σ F:=by
 obtain⟨G,d,a⟩:=h.sep.get .fX;exact aH.mono a λb _ a=>d b a
theorem HH.jX (h:HH σ F L H):L.fX.len=H.bT.length:=by
 have:=h.nB.1;have:=h.s.ys;simp[eW]at *;omega
theorem HH.kr (h:HH σ F L H):cR L.cL 3 (gY L.ts H.bQ) σ F:=by
 obtain⟨G,d,a⟩:=h.sep.get .cL;exact aH.mono (bR.gp a) λb _ a=>d b a
theorem HH.jf (h:HH σ F L H):L.cL.len=H.bQ.length:=by
 have:=h.kr.1;rw[Gm h.s.ts]at this;omega
theorem HH.kG (h:HH σ F L H):dL σ L.lm .i64 (.ag 4) H.live:=by obtain⟨G,b,a⟩:=h.sep.get .live;exact a.2
theorem HH.yh (h:HH σ F L H):dE σ F L.hs H.sp:=by
 obtain⟨G,d,a⟩:=h.sep.get .sp;exact dR.mono dE.loc a λb _ a=>d b a
theorem HH.ar (h:HH σ F L H){A:AR}(hk:H.bT[k]?=some A):∃Y,L.ys[k]?=some Y/\Y.hs=L.hs/\cX σ F Y A (cF A Y):=by
 have e:=(cQ.1 hk).1;have d:L.ys[k]?=some (L.ys[k]'(by rw[h.s.ys];exact e)):=cM _;obtain⟨G,g,a⟩:=h.sep.get (.ar k);simp only[CH,hk,d,oL]at a;exact⟨_,d,h.s.hs _ (zE d),a.mono λb _ a=>g b a⟩
theorem HH.rA (h:HH σ F L H){Y:Lay}(hy:L.ys[k]?=some Y){K:Option Addr->Prop}(hK:K (some ⟨Y.p,0,none⟩)):Ix L.fX.a L.fX.len (k:Int) 1 λa=>fW a σ K:=
 DH h.nB (by simp[hy]) hK
theorem HH.th (h:HH σ F L H)(ht:t<H.bQ.length):∃x g,L.ts[t]?=some x/\H.bQ[t]?=some g:=⟨L.ts[t]'(by rw[h.s.ts];exact ht),H.bQ[t],cM _,cM _⟩
theorem Uj {s:Sl}{ts:List eB}{bQ:List Th}(h:cR s 3 (gY ts bQ) σ F){x:eB}{g:Th}(hx:ts[t]?=some x)(hg:bQ[t]?=some g){d:Nat}(hd:d<3){v:Value}(hv:(jM (x,g))[d]?=some v):∃b o,s.a=some ⟨b,o,none⟩/\cell σ ⟨b,o+(3*t+d),none⟩=some v:=
 h.cell ((AT hx hg hd).trans hv)
theorem AV {s:Sl}{ts:List eB}{bQ:List Th}(hs:cR s 3 (gY ts bQ) σ F)(hl:ts.length=bQ.length){x:eB}{g:Th}(hx:ts[t]?=some x)(hg:bQ[t]?=some g){d:Nat}(hd:d<3){v:Value}(hv:(jM (x,g))[d]?=some v){K:Addr->Prop}
 (hK:∀b o,s.a=some ⟨b,o,none⟩->cell σ (Addr.add ⟨b,o+3*t,none⟩ d)=some v->K ⟨b,o+3*t,none⟩):Ix s.a s.len (t:Int) 3 K:=by
 have m:=(cQ.1 hg).1;have e:=hs.1;rw[Gm hl]at e;obtain⟨b,o,i,j⟩:=Uj hs hx hg hd hv;rw[i];refine ix O O ?_;rw[add_lit,show o+(t:Int).toNat*3=o+3*t by omega];exact hK b o i (by rw[add_lit,show o+3*t+d=o+(3*t+d) by omega];exact j)
theorem HH.Lo (h:HH σ F L H){x:eB}{g:Th}(hx:L.ts[t]?=some x)(hg:H.bQ[t]?=some g){d:Nat}(hd:d<3){v:Value}(hv:(jM (x,g))[d]?=some v){K:Addr->Prop}
 (hK:∀b o,cell σ (Addr.add ⟨b,o+3*t,none⟩ d)=some v->K ⟨b,o+3*t,none⟩):Ix L.cL.a L.cL.len (t:Int) 3 K:=
 AV h.kr h.s.ts hx hg hd hv λb o _ e=>hK b o e
theorem HH.tS (h:HH σ F L H){x:eB}{g:Th}(hx:L.ts[t]?=some x)(hg:H.bQ[t]?=some g){K:Sl->Prop}(hK:K x.h):Ix L.cL.a L.cL.len (t:Int) 3 λa=>jn (a.add 1) σ K:=
 h.Lo hx hg (d:=1) O rfl λb o e=>oh e hK
theorem HH.tR (h:HH σ F L H){x:eB}{g:Th}(hx:L.ts[t]?=some x)(hg:H.bQ[t]?=some g){K:Value->Prop}(hK:K (nu g.ph)):Ix L.cL.a L.cL.len (t:Int) 3 λa=>wZ (a.add 2) σ K:=
 h.Lo hx hg (d:=2) O rfl λb o e=>⟨_,e,hK⟩
theorem HS.dZ (h:HS L H){bQ:List Th}{ts:List eB}(e:ts.length=bQ.length)(e2:bQ.length=H.bQ.length):HS {L with ts:=ts} {H with bQ:=bQ}:=⟨h.ys,h.hs,e,h.a1,h.a2,by rw[e2];exact h.t1,by rw[e2];exact h.t2,h.tb⟩
theorem HS.cB (h:HS L H){A:AR}{sp:Sp}(e:A.tb=H.tb):HS L {H.cB k A with sp:=sp}:=⟨by simp[Hw.cB,h.ys],h.hs,h.ts,by simp[Hw.cB,h.a1],by simp[Hw.cB,h.a2],h.t1,h.t2,λB a=>by
 rcases vR a with h1|h1
 ·exact h.tb B h1
 ·subst h1;exact e⟩
theorem FU {A:AR}:∀j,j≠lh.ar k->CH (H.cB k A) L j=CH H L j:=by
 intro j hj;cases j<;>try rfl
 rename_i m;have a:m≠k:=λe=>hj (by rw[e]);simp only[CH,Hw.cB,zi (Ne.symm a)]
theorem Ja {sp:Sp}:∀j,j≠lh.sp->CH {H with sp:=sp} L j=CH H L j:=by
 intro j hj;cases j<;>first|rfl|exact absurd rfl hj
theorem Wmo {l:List (Int×Bk)}:∀j,j≠lh.live->CH {H with live:=l} L j=CH H L j:=by
 intro j hj;cases j<;>first|rfl|exact absurd rfl hj
theorem HH.wD (h:HH σ F L H){A:AR}(hk:H.bT[k]?=some A):∃(Y:Lay) (G:Rg),L.ys[k]?=some Y/\Y.hs=L.hs/\(∀b,G b->F b)/\cX σ G Y A (cF A Y)/\∀(σ':Hp) (A':AR) (G':Rg),A'.tb=A.tb->Ext G σ σ'->(∀b,G' b->Grow G σ b)->cX σ' G' Y A' (cF A' Y) →
 Ext F σ σ'/\HH σ' (λb=>F b/\b<σ.size/\¬G b\/G' b) L (H.cB k A'):=by
 have g:=(cQ.1 hk).1;have d:L.ys[k]?=some (L.ys[k]'(by rw[h.s.ys];exact g)):=cM _;generalize (L.ys[k]'(by rw[h.s.ys];exact g))=Y at d;obtain⟨G,m,j,_,a⟩:=h.mq (.ar k);simp only[CH,hk,d,oL]at j;refine⟨Y,G,d,h.s.hs _ (zE d),m,j,λσ' A' G' i e p r=>?_⟩;refine a σ' (H.cB k A') L G' (h.s.cB (sp:=H.sp) (i.trans (h.s.tb A (zE hk)))) FU e p ?_;simp only[CH,Hw.cB,d,zM g,oL];exact r
theorem HH.lY (h:HH σ F L H){A:AR}(hk:H.bT[k]?=some A):∃(Y:Lay) (G D:Rg),L.ys[k]?=some Y/\Y.hs=L.hs/\W2 σ G D Y A (cF A Y) H.sp/\∀(σ':Hp) (A':AR) (sp':Sp) (G' D':Rg),A'.tb=A.tb->Ext (gF G D) σ σ'->Fits σ G D G' D'->W2 σ' G' D' Y A' (cF A' Y) sp' →
 Ext F σ σ'/\HH σ' (Grow F σ) L {H.cB k A' with sp:=sp'}:=by
 have K:=(cQ.1 hk).1;have i:L.ys[k]?=some (L.ys[k]'(by rw[h.s.ys];exact K)):=cM _;generalize (L.ys[k]'(by rw[h.s.ys];exact K))=Y at i;obtain⟨G,D,C,J,hd,N,B,_,w⟩:=h.pI (.ar k) .sp (by intro e;cases e);simp only[CH,hk,i,oL]at N;have B:dE σ D L.hs H.sp:=B;have p:=h.s.hs _ (zE i);refine⟨Y,G,D,i,p,⟨N,by rw[p];exact B,hd,h.g,h.o.sub C,h.o.sub J⟩,λσ' A' sp' G' D' y e M z=>?_⟩;have u:∀b,G' b->(G b\/D b)\/σ.size<=b:=λb x=>(M.1 b x).imp .inl id;have r:∀b,D' b->(G b\/D b)\/σ.size<=b:=λb x=>.inl (.inr (M.2 b x));have R:∀m,m≠lh.ar k->m≠lh.sp->CH {H.cB k A' with sp:=sp'} L m=CH H L m:=λm E Q=>
  (FU (H:={H with sp:=sp'}) (L:=L) (A:=A') m E).trans (Ja m Q)
 have P:CH {H.cB k A' with sp:=sp'} L (.ar k) σ' G':=by
  simp only[CH,Hw.cB,i,zM K,oL];exact z.a
 have U:CH {H.cB k A' with sp:=sp'} L .sp σ' D':=by
  show dE σ' D' L.hs sp';rw[←p];exact z.s
 obtain⟨S,E⟩:=w σ' {H.cB k A' with sp:=sp'} L G' D' (h.s.cB (y.trans (h.s.tb A (zE hk)))) R e u r z.d P U;refine⟨S,h.grown E λb x j=>?_⟩;rcases j with j|j|j
 ·exact .inl j.1
 ·exact(u b j).imp (λi=>i.elim (C b) (J b)) id
 ·exact(r b j).imp (λi=>i.elim (C b) (J b)) id
theorem HH.wA (h:HH σ F L H):∃G:Rg,(∀b,G b->F b)/\dE σ G L.hs H.sp/\iW G/\∀(σ':Hp) (sp':Sp),Ext G σ σ'->dE σ' (Grow G σ) L.hs sp'->Ext F σ σ'/\HH σ' (Grow F σ) L {H with sp:=sp'}:=by
 obtain⟨G,g,j,_,a⟩:=h.mq .sp;refine⟨G,g,j,h.o.sub g,λσ' sp' e hs=>?_⟩;obtain⟨p,m⟩:=a σ' {H with sp:=sp'} L (Grow G σ) ⟨h.s.ys,h.s.hs,h.s.ts,h.s.a1,h.s.a2,h.s.t1,h.s.t2,h.s.tb⟩ Ja e (λb i=>i) hs;exact⟨p,h.grown m λb i d=>by
  rcases d with d|d
  ·exact .inl d.1
  ·exact d.imp (g b) id⟩
theorem HH.sB (h:HH σ F L H):F L.lm/\∀(σ':Hp) (l:List (Int×Bk)),QC σ σ' L.lm->dL σ' L.lm .i64 (.ag 4) l->Ext F σ σ'/\HH σ' F L {H with live:=l}:=by
 obtain⟨G,i,d,_,a⟩:=h.mq .live;have d:jZ L.lm .i64 (.ag 4) H.live σ G:=d;refine⟨i _ d.1,λσ' l j m=>?_⟩;obtain⟨r,p⟩:=a σ' {H with live:=l} L G ⟨h.s.ys,h.s.hs,h.s.ts,h.s.a1,h.s.a2,h.s.t1,h.s.t2,h.s.tb⟩ Wmo (j.ext.sub λb g=>by rw[g];exact d.1) (λb g=>.inl g) ⟨d.1,m⟩;exact⟨r,p.mono (λb _ e=>by
  rcases e with e|e
  ·exact e.1
  ·exact i b e) h.o h.o2⟩
theorem HH.pB (h:HH σ F L H){x:eB}{g:Th}(hx:L.ts[t]?=some x)(hg:H.bQ[t]?=some g):∃G:Rg,(∀b,G b->F b)/\eD σ G x.c H.tb H.cf.dB g.ls/\∀(σ':Hp) (ls:List Li) (Y':gX) (G':Rg),Y'.p=x.c.p->Ext G σ σ'->(∀b,G' b->Grow G σ b)->eD σ' G' Y' H.tb H.cf.dB ls →
 Ext F σ σ'/\HH σ' (λb=>F b/\b<σ.size/\¬G b\/G' b) {L with ts:=L.ts.set t {x with c:=Y'}} {H with bQ:=H.bQ.set t {g with ls:=ls}}:=by
 have i:=(cQ.1 hx).1;have r:=(cQ.1 hg).1;obtain⟨G,C,z,_,a⟩:=h.mq (.ca t);simp only[CH,hx,hg,qf]at z;refine⟨G,C,z,λσ' ls Y' G' A e y D=>?_⟩;have w:gY (L.ts.set t {x with c:=Y'}) (H.bQ.set t {g with ls:=ls})=gY L.ts H.bQ:=by
  have E:(gY L.ts H.bQ).set (3*t+0) (.pointer (some ⟨x.c.p,0,none⟩))=gY L.ts H.bQ:=Ql (AT hx hg O);rw[←E];exact(yu hx hg (d:=0) O (by simp[jM,A])).symm
 refine a σ' {H with bQ:=H.bQ.set t {g with ls:=ls}} {L with ts:=L.ts.set t {x with c:=Y'}} G' (h.s.dZ (by simp[h.s.ts]) aA) (λj B=>?_) e y ?_
 ·cases j<;>try rfl
  ·simp only[CH,w]
  ·rename_i m;have u:m≠t:=λe=>B (by rw[e]);simp only[CH,zi (Ne.symm u)]
  ·rename_i m;by_cases u:m=t
   ·subst u;simp only[CH,zM i,zM r,hx,hg];rfl
   ·simp only[CH,zi (Ne.symm u)]
 ·simp only[CH,zM i,zM r,qf];exact D
theorem HH.r9 (h:HH σ F L H){x:eB}{g:Th}(hx:L.ts[t]?=some x)(hg:H.bQ[t]?=some g)(N:Rg)(hN:∀b,b<σ.size->F b->¬N b)(oN:iW N)(oN2:¬N 1):∃G D:Rg,(∀b,G b->F b)/\(∀b,D b->F b)/\(∀b,G b->¬D b)/\ik x.h g.bP σ G/\bR L.cL 3 (gY L.ts H.bQ) σ D/\(∃E:Rg,(∀b,E b->¬G b)/\(∀b,E b->¬D b)/\iF L.p (sZ L H.cf) σ E) ∧
 ∀(σ':Hp) (s:Sl) (bs:List Bt) (G' D':Rg),Ext (λb=>G b\/D b) σ σ'->(∀b,G' b->(G b\/D b)\/N b)->(∀b,D' b->(G b\/D b)\/N b)->(∀b,G' b->¬D' b)->ik s bs σ' G'->bR L.cL 3 ((gY L.ts H.bQ).set (3*t+1) (.slice s.a s.len s.cap)) σ' D' →
  Ext F σ σ'/\HH σ' (λb=>F b/\b<σ.size/\¬(G b\/D b)\/G' b\/D' b) {L with ts:=L.ts.set t {x with h:=s}} {H with bQ:=H.bQ.set t {g with bP:=bs}}:=by
 have i:=(cQ.1 hx).1;have j:=(cQ.1 hg).1;obtain⟨G,D,U,W,hd,P,J,u,r⟩:=h.px (.hn t) .cL (by intro e;cases e) N hN oN oN2;simp only[CH,hx,hg,pf]at P;have J:bR L.cL 3 (gY L.ts H.bQ) σ D:=J;obtain⟨E,_,M,K⟩:=u .hd (by intro e;cases e) (by intro e;cases e);refine⟨G,D,U,W,hd,P,J,⟨E,λb B hx=>M b B (.inl hx),λb B hx=>M b B (.inr hx),K⟩,λσ' s bs G' D' e z C A S R=>?_⟩;have y:gY (L.ts.set t {x with h:=s}) (H.bQ.set t {g with bP:=bs})=(gY L.ts H.bQ).set (3*t+1) (.slice s.a s.len s.cap):=(yu hx hg (d:=1) O (by simp[jM])).symm;refine r σ' {H with bQ:=H.bQ.set t {g with bP:=bs}} {L with ts:=L.ts.set t {x with h:=s}} G' D' (h.s.dZ (by simp[h.s.ts]) aA) (λm V Q=>?_) e z C A ?_ ?_
 ·cases m<;>first|rfl|exact absurd rfl Q|skip
  ·rename_i m;by_cases w:m=t
   ·subst w;simp only[CH,zM i,zM j,hx,hg];rfl
   ·simp only[CH,zi (Ne.symm w)]
  ·rename_i m;have w:m≠t:=λe=>V (by rw[e]);simp only[CH,zi (Ne.symm w)]
 ·simp only[CH,zM i,zM j,pf];exact S
 ·simp only[CH,y];exact R
theorem HH.sF (h:HH σ F L H){x:eB}{g:Th}(hx:L.ts[t]?=some x)(hg:H.bQ[t]?=some g)(p:Option Ph){K:aP}(hK:∀σ',Ext F σ σ'->HH σ' F L {H with bQ:=H.bQ.set t {g with ph:=p}}->K σ') :
 Ix L.cL.a L.cL.len (t:Int) 3 λa=>And (jN (nu p)) (dG (a.add 2) (nu p) σ K):=by
 have C:=(cQ.1 hx).1;have u:=(cQ.1 hg).1;have A:=h.jf;obtain⟨G,J,w,_,i⟩:=h.mq .cL;have w:bR L.cL 3 (gY L.ts H.bQ) σ G:=w;have D:=Gm h.s.ts;obtain⟨b,y⟩:∃b,L.cL.a=some ⟨b,0,none⟩:=by
  rcases w.2 with⟨h0,_⟩|⟨b,_,_,ha,_⟩
  ·omega
  ·exact⟨b,ha⟩
 rw[y];refine ix O O ⟨xo p,?_⟩;refine w.st (j:=3*t+2) O (λP r=>by rw[y]at r;cases r;rw[add_lit,add_lit];congr 1;omega) λσ' e B=>?_;have z:gY L.ts (H.bQ.set t {g with ph:=p})=(gY L.ts H.bQ).set (3*t+2) (nu p):=by
  have:=yu hx hg (d:=2) (v:=nu p) (x':=x) (h':={g with ph:=p}) O (by simp[jM]);rw[this,Ql hx]
 obtain⟨N,M⟩:=i σ' {H with bQ:=H.bQ.set t {g with ph:=p}} L G (h.s.dZ (ts:=L.ts) (by simp[h.s.ts]) aA) (λj E=>by
  cases j<;>first|rfl|exact absurd rfl E|skip
  ·rename_i m;by_cases hm:t=m
   ·subst hm;simp only[CH,zM u,hx,hg];rfl
   ·simp only[CH,zi hm]
  ·rename_i m;by_cases hm:t=m
   ·subst hm;simp only[CH,zM u,hx,hg];rfl
   ·simp only[CH,zi hm]) e (λb y=>.inl y) (by simp only[CH,z];exact B)
 exact hK σ' N (M.mono (λb _ hx=>by
  rcases hx with hx|hx
  ·exact hx.1
  ·exact J b hx) h.o h.o2)
end Go.Ar
namespace Go.Ar
open Go Go.Vc Go.Proofs
open Go.Bu (Zf QK Zu iR)
variable {σ:Hp}{F H:Rg}{p hs:Nat}{A:AR}{sp:Sp}{Y:Lay}{T:Nat->Hp->Rg->Prop}
theorem Ny {s:Sl}{tb:List bW}(h:cR s 3 (fZ tb) σ F)(hl:tb.length<=40){R:Sl->Hp->Prop}(hR:∀s' σ',bO σ σ'->cR s' 3 (fZ tb) σ' (λb=>σ.size<=b)->R s' σ'):Wc.c s σ R:=by
 refine Wc.o ?_;unfold Wc.v;have a:=h.1;rw[KD]at a;exact G8 h aB rfl Iv aB O λs' σ' _ e d=>hR s' σ' e d.gp
end Go.Ar
namespace Go.Ar
open Go Go.Vc Go.Proofs
variable {σ:Hp}{F:Rg}{L:dS}{H:Hw}{t k:Nat}
theorem Kx (h:HH σ F L H){R:aO}(hR:R true σ):WO.c (aW L.p) σ R:=by
 refine WO.o ?_;unfold WO.v;have a:=h.jf;have b:=h.s.t1;refine bY.intro (cJ rfl (aG (h.hd.rS rfl ?_)));rw[zW aC];exact hR
theorem IL (h:HH σ F L H)(x:Int){R:aO}(hR:R (decide (0<=x/\x<(H.bQ.length:Int))) σ):YW.c (aW L.p) x σ R:=by
 refine YW.o ?_;unfold YW.v;have a:=h.jf;refine bY.intro (cI (λb=>aG (h.hd.rS rfl ?_)) λb=>?_)
 ·have:decide (x<((L.cL.len:Nat):Int))=decide (0<=x/\x<(H.bQ.length:Int)):=by rw[decide_eq_decide,a];omega
  simp only[this];exact hR
 ·rw[zh O]at hR;exact hR
theorem Fy (h:HH σ F L H)(t:Nat){R:aN}(hR:R ((H.own t:Nat):Int) σ):ZH.c (aW L.p) (t:Int) σ R:=by
 refine ZH.o ?_;unfold ZH.v;have a:=h.jX;have b:=h.s.a1;refine aG (h.hd.rS rfl (nz aC ?_));have:((t:Int).tmod ((L.fX.len:Nat):Int))=((H.own t:Nat):Int):=by rw[Q9 O,a];unfold Hw.own;omega
 simp only[this];exact hR
theorem AS (h:HH σ F L H)(x:Int)(hx9:x<=9223372036854775807){R:aN}(hR:∀σ',bO σ σ'->R (YJ H.bT x) σ'):Yl.c (aW L.p) x σ R:=by
 refine Yl.o ?_;unfold Yl.v;refine nw (cs:=[.int .i64 x]) λv Z e P=>P.xl rfl ?_;have Q:=h.bK e;by_cases hx:x<0
 ·have:=hR v e;unfold YJ at this;rw[zB hx]at this;exact lU hx this
 refine fG hx (aG (Q.hd.rS rfl ?_));have hl:=h.jX;have W:=h.s.a2;refine Wk.o ?_;unfold Wk.v;refine ZU (a:=bN) (λ(z:Int) w=>∃i:Nat,z=(i:Int)/\i<=H.bT.length/\bO σ w/\HH w F L H/\bX w σ.size [.int .i64 x]/\∀j A,j<i->H.bT[j]?=some A->US A (x/256)=false) (λz _=>H.bT.length-z.toNat) ⟨0,rfl,O,e,Q,P,λj A d=>O⟩ ?_;rintro z w ⟨i,rfl,hi,G,K,r,b⟩;refine cI (λJ=>?_) λN=>?_
 ·simp only at J;have C:i<H.bT.length:=by omega
  have g:H.bT[i]?=some H.bT[i]:=cM C;generalize H.bT[i]=A at g;obtain⟨Y,V,X,y⟩:=K.ar g;refine K.rA V (GF (all := #[.pointer (some ⟨Y.p,0,none⟩),.pointer (some ⟨σ.size,0,none⟩)]) (by kernel_rfl) aA ?_);refine Zh.o ?_;unfold Zh.v;refine r.xl rfl (nz aB (ar (by rw[YK O];omega) (by rw[YK O];omega) ?_));rw[YK O];refine P8 y (x/256) (cU (λS=>?_) λU=>?_)
  ·have:YJ H.bT x=(i:Int):=by
    unfold YJ;rw[zA hx];have:H.bT.findIdx? (λA=>US A (x/256))=some i:=by
     obtain⟨D,rfl⟩:=cQ.1 g;exact oO.2 ⟨D,S,λj d=>by rw[b j _ d (cM O)];simp⟩
    rw[this]
   have u:=hR w G;rw[this]at u;exact u
  ·exact cA (m:=i+1) O O ⟨⟨i+1,rfl,O,G,K,r,λj B d E=>by
    by_cases e:j=i
    ·subst e;rw[g]at E;cases E;exact U
    ·exact b j B O E⟩,O⟩
 ·have M:i=H.bT.length:=by simp only at N;omega
  subst M;have:YJ H.bT x = -1:=by
   unfold YJ;rw[zA hx];have:H.bT.findIdx? (λA=>US A (x/256))=none:=by
    rw[vf];intro A g;obtain⟨j,d⟩:=zN g;exact b j A (cQ.1 d).1 d
   rw[this]
  have u:=hR w G;rw[this]at u;exact u
theorem O9 (h:HH σ F L H){R:Int->Int->Int->Int->Int->Hp->Prop}(hR:∀σ',bO σ σ'->R (H.cf.aF:Int) (H.cf.iq:Int) (H.cf.threads:Int) (H.cf.dB:Int) (H.cf.room:Int) σ'):Y9.c (aW L.p) σ R:=by
 refine Y9.o ?_;unfold Y9.v;refine nw (cs:=[.int .i64 0,.int .i64 0,.int .i64 0,.int .i64 0,.int .i64 0]) λv s e j=>Kx (h.bK e) (cG rfl ?_);have hd:=(h.bK e).hd;refine aG (hd.gD rfl (hd.gD rfl (hd.gD rfl (hd.gD rfl (hd.gD rfl ?_)))));refine j.s1 aA λu o1 b=>b.s1 aA λr o2 d=>d.s1 aA λv3 o3 g=>g.s1 aA λw o4 m=>m.s1 aA λi o5 a=>?_;refine a.rI rfl (a.rI rfl (a.rI rfl (a.rI rfl (a.rI rfl (hR i ?_)))));exact((((e.only o1 (.inr (zD _))).only o2 (.inr (zD _))).only o3 (.inr (zD _))).only o4 (.inr (zD _))).only o5 (.inr (zD _))
theorem F3 (h:HH σ F L H)(hl:H.tb.length<=40){R:Sl->Hp->Prop}(hR:∀s σ',bO σ σ'->cR s 3 (fZ H.tb) σ' (λb=>σ.size<=b)->R s σ'):YX.c (aW L.p) σ R:=by
 refine YX.o ?_;unfold YX.v;exact Kx h (cG rfl (aG (h.hd.rS rfl (Ny h.jI hl hR))))
theorem Sr (h:HH σ F L H){R:Option Addr->Hp->Prop}(hR:R (some ⟨L.hs,0,none⟩) σ):Zn.c (aW L.p) σ R:=by
 refine Zn.o ?_;unfold Zn.v;exact Kx h (cG rfl (aG (h.hd.rP rfl hR)))
theorem SM (h:HH σ F L H)(gc:Gc σ)(x v:Int)(hx:x<=9223372036854775807){R:aN}(hR:∀σ',Ext F σ σ'->HH σ' (Grow F σ) L {H with sp:=UU H.sp x v}->R (j6 H.sp x) σ'):Zi.c (aW L.p) x v σ R:=by
 refine Zi.o ?_;unfold Zi.v;obtain⟨G,r,j,d,a⟩:=h.wA;refine Sr h (MM j h.g gc x hx v λσ' e b=>?_);obtain⟨m,i⟩:=a σ' _ e b;exact hR σ' m i
theorem V5 (h:HH σ F L H)(ht:t<H.bQ.length){R:Value->Hp->Prop}(hR:R (nu (kf H t)) σ):W4.c (aW L.p) (t:Int) σ R:=by
 refine W4.o ?_;unfold W4.v;obtain⟨x,g,b,a⟩:=h.th ht;refine aG (h.hd.rS rfl (h.tS b a ?_));obtain⟨G,i,d⟩:=h.sep.get (.hn t);simp only[CH,b,a,pf]at d;have e:=d.len;unfold kf at hR;rw[a]at hR;simp only at hR;by_cases h0:g.bP=[]
 ·rw[zB h0]at hR;exact cJ (by rw[e,h0];rfl) hR
 ·rw[zA h0]at hR;have:=qo.2 h0;exact cG (by simp only[m8];omega) hR
theorem BD (h:HH σ F L H)(x size cls:Int)(hx9:x<=9223372036854775807){R:Value->Int->Int->Hp->Prop}(hR:∀σ',Ext F σ σ'->HH σ' F L (VI H x size cls)->R .nilIface x 0 σ'):Zd.c (aW L.p) x size cls σ R:=by
 refine Zd.o ?_;unfold Zd.v;refine nw (cs:=[.int .i64 0,.int .i64 0]) λv J e a=>?_;have j:=h.cut.bK e;refine⟨λu=>bO v u,Ext.refl _ _,aG ⟨some L.lm,λu z=>by rw[add_lit,((j.bK z).hd).cell];rfl,?_⟩⟩;refine AS j x hx9 λK g=>⟨g,?_⟩;have w:=j.bK g;obtain⟨A,d⟩:=w.sB;refine⟨L.lm,_,rfl,w.kG,λs o2 r=>?_⟩;obtain⟨E,B⟩:=d s _ o2 r;have i:bX s σ.size [.int .i64 0,.int .i64 0]:=Ws o2 (g.bZ a id) (by have:=A.2;omega);refine i.s1 aA λv3 o3 D=>D.s1 aA λv4 o4 y=>y.rI rfl (y.rI rfl (hR v4 ?_ ?_))
 ·exact(((bO.to (e.trans g)).trans (E.sub λb a=>a.1)).only o3 (.inr (zD _))).only o4 (.inr (zD _))
 ·have m:Ext (· = σ.size) s v4:=o3.ext.trans o4.ext;have C:=h.xG B m (λb a=>O) (λb _ a G=>by have:=a.2;omega);exact C.mono (λb _ a=>a.1) h.o h.o2
theorem y6 (h:HH σ F L H)(ht:t<H.bQ.length)(k:Nat){s:Sl}{xs:List Int}{X:Rg}(hs:cR s 1 (Wv xs) σ X)(hc:s.len<=s.cap)(hxs:xs≠[])(hX:∀b,b<σ.size->X b->¬F b)(oX:iW X)(oX2:¬X 1)(hlen:∀g,H.bQ[t]?=some g->g.bP.length<=1000){R:aP}
 (hR:∀σ' ts',Ext F σ σ'->HH σ' (λb=>Grow F σ b\/X b) {L with ts:=ts'} (QP H t k xs)->R σ'):YB.c (aW L.p) (t:Int) (k:Int) s σ R:=by
 refine YB.o ?_;unfold YB.v;obtain⟨x,g,r,Z⟩:=h.th ht;have htl:=Gm h.s.ts;have hrl:=h.jf;have hlen:=hlen g Z;obtain⟨G,D,hG,hD,hd,hB,hr,⟨E,hE1,hE2,hhd⟩,V⟩:=h.cut.r9 r Z (λb=>σ.size<=b\/b<σ.size/\X b) (λb m hf hn=>by
  rcases hn with hn|hn
  ·omega
  ·exact hX b m hn.2 hf.1) (λb m=>m.elim (h.mT.1 b) λm=>oX b m.2) (λm=>m.elim h.mT.2 λm=>oX2 m.2)
 obtain⟨W,Dn,B,C,K,hj,Y⟩:=hB;have A:∀u,Ext G σ u->bX u L.p (sZ L H.cf):=λu z=>((iF.loc _ _).bU hhd z λb _ m r=>hE1 b m r).2;have P:∀u,Ext G σ u->bR L.cL 3 (gY L.ts H.bQ) u D:=λu z=>aI.bU hr z λb _ m r=>hd b r m;refine⟨λu=>Ext G σ u,Ext.refl _ _,aG ⟨L.cL,λu z=>by rw[add_lit,(A u z).cell];rfl,aG ⟨L.cL,λu z=>by rw[add_lit,(A u z).cell];rfl,?_⟩⟩⟩;refine AV (bR.gp hr) h.s.ts r Z (d:=1) O rfl λb o ha _=>⟨x.h,λu z=>?_,?_⟩
 ·obtain⟨b',o',aa,hc'⟩:=Uj (bR.gp (P u z)) r Z (d:=1) O rfl;rw[ha]at aa;cases aa;rw[add_lit,show o+3*t+1=o+(3*t+1) by omega];exact hc'
 refine nw (cs:=[.int .i64 (k:Int),.slice s.a s.len s.cap]) λv hz e m=>⟨bO.to e,?_⟩;have M:=(dM.loc _ _ _).bK ((dM.loc _ _ _).cut B) e;have ab:=(k7.loc _ _).bK ((k7.loc _ _).cut C) e;have hs1:=aH.bK (aH.cut hs) e;have hpl:x.h.len=W.length:=by have:=B.1;rw[KF]at this;omega
 have hpg:W.length=g.bP.length:=C.1;refine M.app (ys:=oU (k,s)) rfl rfl ?_ (λv hv=>HN (l:=[(k,s)]) v (by simpa[fK]using hv)) ?_ ?_ nA λs' v2 hl2 e2 hr2=>?_
 ·intro j u z;rw[add_lit,zG,m.cell];exact z
 ·simp only;have:(x.h.len+1)*32<=1001*32:=kL O O;omega
 ·simp only;omega
 have hs2:=e2.1;have eG:Ext G σ v2:=(bO.to e).trans (e2.sub λb m=>m.1.1);refine⟨eG,?_⟩;obtain⟨b0,U⟩:∃b,L.cL.a=some ⟨b,0,none⟩:=by
  rcases hr.2 with⟨h0,_⟩|⟨b,_,_,ha,_⟩
  ·omega
  ·exact⟨b,ha⟩
 rw[U];refine ix O O ?_;refine(P v2 eG).st (j:=3*t+1) O (λb' S=>by rw[U]at S;cases S;rw[add_lit,add_lit];congr 1;omega) λσ' Q hr3=>?_;have hs3:=Q.1;have e03:Ext (λb=>G b\/D b) σ σ':=(eG.sub λb m=>.inl m).trans (Q.sub λb m=>.inr m);have hr4:=(dM.loc _ _ _).bU ((dM.loc _ _ _).cut hr2) Q λb _ m r=>by
  rcases m.1 with h1|h1
  ·exact hd b h1.1.1 r
  ·have:=(hD b r).2;omega
 have hB4:=(k7.loc _ _).bU ((k7.loc _ _).bU ab e2 λb _ m r=>r.1.2 m.1) Q λb _ m r=>hd b (K b m.1) r;have hs4:=aH.bU (aH.bU hs1 e2 λb m r w=>hX b r.2 r.1 (hG b w.1.1).1) Q λb _ r w=>hX b r.2 r.1 (hD b w).1;have hBt:ik s' (g.bP++[(k,xs)]) σ' (λb=>G b/\b<σ.size\/b<σ.size/\X b\/v.size<=b/\b<v2.size):=by
  refine⟨W++[(k,s)],λb=>Dn b/\b<σ.size\/b<σ.size/\X b,?_,⟨by simp[hpg],λi p y J w=>?_⟩,λb m=>?_,hj.snoc C Y hs hxs (λb m r w=>hX b m w (hG b (K b r)).1) k,λy w=>?_⟩
  ·rw[U0];have:fK [(k,s)]=oU (k,s):=by simp[fK]
   rw[this];refine(dM.loc _ _ _).mono hr4 λq _ N=>?_;rcases N.1 with h1|h1
   ·exact⟨.inl ⟨h1.1.1,h1.2⟩,λr=>by
     rcases r with r|r
     ·exact h1.1.2 r.1
     ·exact hX q r.1 r.2 (hG q h1.1.1).1⟩
   ·exact⟨.inr (.inr ⟨h1,N.2⟩),λr=>by
     rcases r with r|r<;>omega⟩
  ·rcases l8 i W.length with hi|hi
   ·rw[zd hi]at J;rw[zd O]at w;obtain⟨a1,a2,a3⟩:=hB4.2 i p y J w;exact⟨a1,aH.mono a2 λq _ N=>.inl N,a3⟩
   ·rw[zo hi]at J;rw[zo O]at w;have hi0:i-W.length=0:=by
     have:=(cQ.1 J).1;simp at this;omega
    rw[hi0]at J;rw[show i-g.bP.length=0 by omega]at w;simp at J w;subst J;subst w;exact⟨rfl,aH.mono hs4 λq _ N=>.inr ⟨N.2,N.1⟩,hc⟩
  ·rcases m with m|m
   ·exact .inl ⟨K b m.1,m.2⟩
   ·exact .inr (.inl m)
  ·rcases zR.1 w with h1|h1
   ·exact Y y h1
   ·rw[zV]at h1;subst h1;exact hxs
 obtain⟨eF,h4⟩:=V σ' s' (g.bP++[(k,xs)]) (λb=>G b/\b<σ.size\/b<σ.size/\X b\/v.size<=b/\b<v2.size) D e03 (λb m=>by
  rcases m with m|m|m
  ·exact .inl (.inl m.1)
  ·exact .inr (.inr m)
  ·exact .inr (.inl O)) (λb m=>.inl (.inr m)) (λb m r=>by
  have:=(hD b r).2;rcases m with m|m|m
  ·exact hd b m.1 r
  ·exact hX b m.1 m.2 (hD b r).1
  ·omega) hBt hr3
 refine hR σ' (L.ts.set t {x with h:=s'}) (eF.sub λb m=>m.1) ?_;have e5:QP H t k xs = {H with bQ:=H.bQ.set t {g with bP:=g.bP++[(k,xs)]}}:=by
  unfold QP Hw.dZ
  congr 1
  exact K0 Z
 rw[e5];refine h4.mono (λb _ m=>?_) (λb (m:Grow F σ b\/X b)=>m.elim (h.oG b) (oX b)) λ(m:Grow F σ _\/X _)=>m.elim h.qN oX2;rcases m with m | (m|m|m)|m
 ·exact .inl (.inl m.1.1)
 ·exact .inl (.inl (hG b m.1).1)
 ·exact .inr m.2
 ·exact .inl (.inr O)
 ·exact .inl (.inl (hD b m).1)
end Go.Ar
namespace Go.Ar
open Go Go.Vc Go.Proofs
variable {σ u u':Hp}{F B P:Rg}{L:dS}{H H':Hw}{t k n:Nat}{A:AR}{Y:Lay}{x:eB}{g:Th}{c:bW}{l:Li}{cs:List Value}
structure HK (F:Rg) (σ:Hp) (B:Rg) (u:Hp) (P:Rg) (L:dS) (H:Hw):Prop where
 h:HH u P L H
 e:Ext F σ u
 p:∀b,P b->(F b/\b<σ.size\/σ.size<=b)/\¬B b/\b<u.size
 b:∀b,B b->σ.size<=b/\b<u.size
 o:iW (λb=>σ.size<=b)/\¬σ.size<=1
theorem HK.start (h:HH σ F L H):HK F σ (λ_=>False) σ (Cut F σ) L H:=⟨h.cut,Ext.refl _ _,λb a=>⟨.inl ⟨a.1,a.2⟩,id,a.2⟩,λb a=>a.elim,h.mT⟩
theorem HK.box (K:HK F σ B u P L H)(e:bO u u')(hz:u'.size=u.size+1):HK F σ (λb=>B b\/b=u.size) u' P L H:=
 ⟨K.h.bK e,K.e.trans (bO.to e),λb a=>⟨(K.p b a).1,λd=>d.elim (K.p b a).2.1 λg=>by have:=(K.p b a).2.2;omega,by have:=(K.p b a).2.2;omega⟩,λb a=>by
  have:=K.e.1;rcases a with a|a
  ·have:=K.b b a;omega
  ·omega,K.o⟩
theorem HK.fr (K:HK F σ B u P L H)(e:bO u u'):HK F σ B u' P L H:=
 ⟨K.h.bK e,K.e.trans (bO.to e),λb a=>⟨(K.p b a).1,(K.p b a).2.1,by have:=(K.p b a).2.2;have:=e.1;omega⟩,λb a=>by have:=K.b b a;have:=e.1;omega,K.o⟩
theorem HK.own (K:HK F σ B u P L H)(o:QC u u' n)(hn:B n):HK F σ B u' P L H:=by
 have s:=K.b n hn;have r:=o.1;have e:Ext (· = n) u u':=o.ext;have j:∀b,b<u.size->P b->¬(b=n):=λb _ a g=>(K.p b a).2.1 (g▸hn);have d:iW (λb=>b=n)/\¬(1=n):=⟨K.o.1.sub λb m=>O,λm=>K.o.2 O⟩;exact⟨K.h.bU e j d.1 d.2,K.e.fF e λb (i:b=n)=>.inr O,λb a=>⟨(K.p b a).1,(K.p b a).2.1,by have:=(K.p b a).2.2;omega⟩,λb a=>by have:=K.b b a;omega,K.o⟩
theorem HK.cW (K:HK F σ B u P L H)(e:Ext P u u')(hb:bX u n cs)(hn:B n):bX u' n cs:=e.bZ hb λa=>(K.p n a).2.1 hn
theorem HK.tQ (K:HK F σ B u P L H){Q:Rg}{L':dS}(e:Ext P u u')(h:HH u' Q L' H')(hq:∀b,b<u'.size->Q b->P b\/u.size<=b\/(F b/\b<σ.size\/σ.size<=b)/\¬B b):HK F σ B u' (Cut Q u') L' H':=by
 have g:=e.1;have i:=K.e.1;refine⟨h.cut,K.e.fF e λb a=>(K.p b a).1.imp (λh=>h.1) id,λb a=>⟨?_,λd=>?_,a.2⟩,λb a=>by have:=K.b b a;omega,K.o⟩
 ·rcases hq b a.2 a.1 with h1|h1|h1
  ·exact(K.p b h1).1
  ·exact .inr O
  ·exact h1.1
 ·rcases hq b a.2 a.1 with h1|h1|h1
  ·exact(K.p b h1).2.1 d
  ·have:=K.b b d;omega
  ·exact h1.2 d
theorem HK.to (K:HK F σ B u P L H){Q:Rg}{L':dS}(e:Ext P u u')(h:HH u' Q L' H')(hq:∀b,b<u'.size->Q b->P b\/u.size<=b):HK F σ B u' (Cut Q u') L' H':=K.tQ e h λb d a=>(hq b d a).imp id .inl
theorem HK.fin (K:HK F σ B u P L H){L0:dS}{H0:Hw}(h0:HH σ F L0 H0):HH u (Grow F σ) L H:=h0.grown K.h λb _ a=>(K.p b a).1.imp (λh=>h.1) id
def Fr (A' A:AR):Prop:=A'.tb=A.tb/\A'.room=A.room/\A'.cE=A.cE
theorem Fr.cF {A' A:AR}(h:Fr A' A)(Y:Lay):Go.Ar.cF A' Y=Go.Ar.cF A Y:=by
 funext k;unfold Go.Ar.cF;rw[h.1,h.2.1,h.2.2]
theorem J8 (A:AR)(k m:Int):Fr (YO A k m) A:=by
 unfold YO;split<;>exact⟨rfl,rfl,rfl⟩
theorem Lw (A:AR)(k:Int)(xs:List Int):Fr (Zg A k xs) A:=⟨(VC A k xs).1,(VC A k xs).2.1,(VC A k xs).2.2.1⟩
theorem Eu (A:AR)(sp:Sp)(m a no:Nat):Fr (cZ A sp m a no).2.1 A:=⟨(Gz A sp m a no).1,(Gz A sp m a no).2.2.2.1,(Gz A sp m a no).2.2.1⟩
theorem Io (A:AR)(x:Int):Fr (QE A x) A:=by
 unfold QE;split<;>exact⟨rfl,rfl,rfl⟩
theorem JP (A:AR)(sp:Sp)(k:Int):Fr (cP A sp k).1 A:=by
 unfold cP;split
 ·split
  ·rename_i c ss h1 h2;have h:=Eu A sp c.aF 1 (k.toNat+1);generalize cZ A sp c.aF 1 (k.toNat+1)=r at h;obtain⟨o,A',a⟩:=r;cases o with
   | none=>exact h
   | some x=>
    simp only;split<;>exact h
  ·exact⟨rfl,rfl,rfl⟩
 ·exact⟨rfl,rfl,rfl⟩
theorem LD (A:AR)(sp:Sp)(m a:Int):Fr (cD A sp m a).1 A:=by
 unfold cD;split
 ·have h:=Eu A sp m.toNat a.toNat 41;generalize cZ A sp m.toNat a.toNat 41=r at h;obtain⟨o,A',b⟩:=r;cases o<;>exact h
 ·exact⟨rfl,rfl,rfl⟩
theorem Om (A:AR)(k:Int):(ZR A k).tb=A.tb:=by unfold ZR;split<;>rfl
theorem Rv (A:AR)(k:Int)(xs:List Int):(Q7 A k xs).tb=A.tb:=by unfold Q7;split<;>rfl
theorem HH.m6 (h:HH σ F L H)(hk:H.bT[k]?=some A)(hy:L.ys[k]?=some Y):∃G:Rg,(∀b,G b->F b)/\cX σ G Y A (cF A Y)/\∀(σ':Hp) (A':AR) (Q:Rg),A'.tb=A.tb->Ext G σ σ'->(∀b,Q b->G b\/σ.size<=b)->cX σ' (λb=>Grow G σ b/\¬Q b) Y A' (cF A' Y) →
 Ext F σ σ'/\HH σ' (λb=>Grow F σ b/\¬Q b) L (H.cB k A'):=by
 obtain⟨Y',G,g,_,j,m,d⟩:=h.wD hk;rw[hy]at g;cases g;refine⟨G,j,m,λσ' A' Q i e u s=>?_⟩;obtain⟨w,p⟩:=d σ' A' _ i e (λb a=>a.1) s;refine⟨w,p.mono (λb _ a=>?_) (h.oG.sub λb a=>a.1) λa=>h.qN a.1⟩;rcases a with a|a
 ·exact⟨.inl a.1,λr=>by
   rcases u b r with h2|h2
   ·exact a.2.2 h2
   ·have:=a.2.1;omega⟩
 ·exact⟨a.1.imp (j b) id,a.2⟩
theorem cX.xe {T:Nat->Hp->Rg->Prop}{G Q:Rg}(h:cX σ G Y A T)(hq:∀b,¬Q b):cX σ (λb=>G b/\¬Q b) Y A T:=h.mono λb _ a=>⟨a,hq b⟩
theorem HH.lB (h:HH σ F L H)(hk:H.bT[k]?=some A)(hy:L.ys[k]?=some Y):∃G:Rg,(∀b,G b->F b)/\cX σ G Y A (cF A Y)/\∀(σ':Hp) (A':AR),A'.tb=A.tb->Ext G σ σ'->cX σ' (Grow G σ) Y A' (cF A' Y) →
 Ext F σ σ'/\HH σ' (Grow F σ) L (H.cB k A'):=by
 obtain⟨G,m,i,a⟩:=h.m6 hk hy;refine⟨G,m,i,λσ' A' g e j=>?_⟩;obtain⟨r,p⟩:=a σ' A' (λ_=>False) g e (λb d=>d.elim) (j.xe λ_=>id);exact⟨r,p.mono (λb _ d=>d.1) h.oG h.qN⟩
theorem GT (h:HH σ F L H)(hk:H.bT[k]?=some A)(hy:L.ys[k]?=some Y)(c:Int){R:Sl->Int->Hp->Prop}
 (hR:∀s σ' (Q:Rg),Ext F σ σ'->(∀b,Q b->F b)->cR s 1 (Wv (YL A c)) σ' Q->s.len<=s.cap->HH σ' (λb=>Grow F σ b/\¬Q b) L (H.cB k (ZR A c))->R s (Z6 A c) σ') :
 WB.c (aW Y.p) c σ R:=by
 obtain⟨G,r,j,d⟩:=h.m6 hk hy;refine GU j c λs σ' e i w g m=>?_;obtain⟨x,u⟩:=d σ' (ZR A c) (lu s) (Om A c) e (λb a=>.inl (i b a)) (m.mono λb _ a=>⟨.inl a.1,a.2⟩);exact hR s σ' (lu s) x (λb a=>r b (i b a)) w g u
theorem NM (h:HH σ F L H)(hk:H.bT[k]?=some A)(hy:L.ys[k]?=some Y)(c m:Int){R:Sl->Int->Hp->Prop}
 (hR:∀s σ' (Q:Rg),Ext F σ σ'->(∀b,Q b->σ.size<=b)->bR s 1 (ints (Yt A c m)) σ' Q->HH σ' (λb=>Grow F σ b/\¬Q b) L (H.cB k (YO A c m))->R s (QF A c m) σ') :
 WE.c (aW Y.p) c m σ R:=by
 obtain⟨G,x,i,d⟩:=h.m6 hk hy;refine Χ i c m λs σ' e u j=>?_;have g:cF (YO A c m) Y=cF A Y:=(J8 A c m).cF Y;obtain⟨w,r⟩:=d σ' (YO A c m) (λb=>σ.size<=b) (J8 A c m).1 e (λb a=>.inr a) (by rw[g];exact j.mono λb _ a=>⟨.inl a.1,by have:=a.2;omega⟩);exact hR s σ' _ w (λb a=>a) u r
theorem Rf (h:HH σ F L H)(hk:H.bT[k]?=some A)(hy:L.ys[k]?=some Y)(c:Int){sl:Sl}{xs:List Int}{X:Rg}(hs:cR sl 1 (Wv xs) σ X)(hi:∀x∈xs,iL x){R:Bool->Int->Hp->Prop}
 (hR:∀σ',Ext F σ σ'->HH σ' (Grow F σ) L (H.cB k (Q7 A c xs))->R (Vm A c xs) (Hx A c xs) σ'):WJ.c (aW Y.p) c sl σ R:=by
 obtain⟨G,j,d,a⟩:=h.lB hk hy;refine PD d c hs hi λσ' e b=>?_;obtain⟨i,g⟩:=a σ' _ (Rv A c xs) e b;exact hR σ' i g
theorem Mj (h:HH σ F L H)(hk:H.bT[k]?=some A)(hy:L.ys[k]?=some Y)(c:Int){sl:Sl}{xs:List Int}{X:Rg}(hs:cR sl 1 (Wv xs) σ X)(hX:∀b,b<σ.size->X b->¬F b)(hi:∀x∈xs,iL x)(hl:xs.length<=1000000)(hcap:sl.len<=sl.cap){R:aN}
 (hR:∀σ',Ext F σ σ'->HH σ' (Grow F σ) L (H.cB k (Zg A c xs))->R (QW A c xs) σ'):WC.c (aW Y.p) c sl σ R:=by
 obtain⟨G,s,g,a⟩:=h.lB hk hy;refine GL g c hi hl hcap (.inl ⟨X,hs,λb r m i=>hX b r m (s b i)⟩) λσ' e j=>?_;have d:cF (Zg A c xs) Y=cF A Y:=(Lw A c xs).cF Y;obtain⟨w,u⟩:=a σ' _ (Lw A c xs).1 e (by rw[d];exact j);exact hR σ' w u
theorem Wch (h:HH σ F L H)(hk:H.bT[k]?=some A)(hy:L.ys[k]?=some Y)(x:Int)(hf:∀r∈A.runs,r.1<=1000000){R:aN}
 (hR:∀σ',Ext F σ σ'->HH σ' (Grow F σ) L (H.cB k (QE A x))->R (KT A x) σ'):WR.c (aW Y.p) x σ R:=by
 obtain⟨G,m,g,a⟩:=h.lB hk hy;refine Wc6 g x hf λσ' e d=>?_;have b:cF (QE A x) Y=cF A Y:=(Io A x).cF Y;obtain⟨j,i⟩:=a σ' _ (Io A x).1 e (by rw[b];exact d);exact hR σ' j i
theorem υ (h:HH σ F L H)(hk:H.bT[k]?=some A)(hy:L.ys[k]?=some Y)(c:Int){R:aN}
 (hR:∀σ',Ext F σ σ'->HH σ' (Grow F σ) L {H.cB k (cP A H.sp c).1 with sp:=(cP A H.sp c).2}->R (KQ A H.sp c) σ'):Yk.c (aW Y.p) c σ R:=by
 obtain⟨Y',G,D,b,_,i,a⟩:=h.lY hk;rw[hy]at b;cases b;refine TF i c λσ' G' D' j e g=>?_;have d:cF (cP A H.sp c).1 Y=cF A Y:=(JP A H.sp c).cF Y;obtain⟨r,m⟩:=a σ' _ _ G' D' (JP A H.sp c).1 e j (by rw[d];exact g);exact hR σ' r m
theorem S2 (h:HH σ F L H)(hk:H.bT[k]?=some A)(hy:L.ys[k]?=some Y)(m a:Int){R:Int->Int->Hp->Prop}
 (hR:∀σ',Ext F σ σ'->HH σ' (Grow F σ) L {H.cB k (cD A H.sp m a).1 with sp:=(cD A H.sp m a).2}->R ((Z5 A H.sp m a:Nat):Int) (Qz A H.sp m a) σ'):WT.c (aW Y.p) m a σ R:=by
 obtain⟨Y',G,D,d,_,j,b⟩:=h.lY hk;rw[hy]at d;cases d;refine Ζ j m a λσ' G' D' r e i=>?_;have g:cF (cD A H.sp m a).1 Y=cF A Y:=(LD A H.sp m a).cF Y;obtain⟨u,s⟩:=b σ' _ _ G' D' (LD A H.sp m a).1 e r (by rw[g];exact i);exact hR σ' u s
def Hw.dY (H:Hw)(t:Nat)(g:Th)(ls:List Li):Hw:={H with bQ:=H.bQ.set t {g with ls:=ls}}
theorem HH.lR (h:HH σ F L H)(hx:L.ts[t]?=some x)(hg:H.bQ[t]?=some g):∃G:Rg,(∀b,G b->F b)/\eD σ G x.c H.tb H.cf.dB g.ls/\∀(σ':Hp) (ls:List Li) (Y':gX) (Q:Rg),Y'.p=x.c.p->Ext G σ σ'->(∀b,Q b->σ.size<=b)->eD σ' (λb=>Grow G σ b/\¬Q b) Y' H.tb H.cf.dB ls →
 Ext F σ σ'/\HH σ' (λb=>Grow F σ b/\¬Q b) {L with ts:=L.ts.set t {x with c:=Y'}} (H.dY t g ls):=by
 obtain⟨G,i,w,d⟩:=h.pB hx hg;refine⟨G,i,w,λσ' ls Y' Q m e s r=>?_⟩;obtain⟨y,u⟩:=d σ' ls Y' _ m e (λb a=>a.1) r;refine⟨y,u.mono (λb _ a=>?_) (h.oG.sub λb a=>a.1) λa=>h.qN a.1⟩;rcases a with a|a
 ·exact⟨.inl a.1,λj=>by have:=a.2.1;have:=s b j;omega⟩
 ·exact⟨a.1.imp (i b) id,a.2⟩
theorem HH.lX (h:HH σ F L H)(hx:L.ts[t]?=some x)(hg:H.bQ[t]?=some g):∃G:Rg,(∀b,G b->F b)/\eD σ G x.c H.tb H.cf.dB g.ls/\∀(σ':Hp) (ls:List Li) (Y':gX),Y'.p=x.c.p->Ext G σ σ'->eD σ' (Grow G σ) Y' H.tb H.cf.dB ls →
 Ext F σ σ'/\HH σ' (Grow F σ) {L with ts:=L.ts.set t {x with c:=Y'}} (H.dY t g ls):=by
 obtain⟨G,m,s,a⟩:=h.lR hx hg;refine⟨G,m,s,λσ' ls Y' i e j=>?_⟩;obtain⟨u,r⟩:=a σ' ls Y' (λ_=>False) i e (λb d=>d.elim) (j.mono λb _ d=>⟨d,id⟩);exact⟨u,r.mono (λb _ d=>d.1) h.oG h.qN⟩
theorem Sc (h:HH σ F L H)(hx:L.ts[t]?=some x)(hg:H.bQ[t]?=some g)(hc:H.tb[k]?=some c)(hl:g.ls[k]?=some l){R:Int->Int->Hp->Prop}
 (hR:∀σ' ts',Ext F σ σ'->HH σ' (Grow F σ) {L with ts:=ts'} (H.dY t g (g.ls.set k (Kb c l).2))->R ((Kb c l).1.getD 0) (if(Kb c l).1.isSome then 0 else 4) σ'):Yo.c (aW x.c.p) (k:Int) σ R:=by
 obtain⟨G,r,i,a⟩:=h.lX hx hg;refine lT i hc hl λσ' Y' e b d=>?_;obtain⟨m,j⟩:=a σ' _ Y' b e d;exact hR σ' _ m j
theorem Sd (h:HH σ F L H)(hx:L.ts[t]?=some x)(hg:H.bQ[t]?=some g)(hc:H.tb[k]?=some c)(hl:g.ls[k]?=some l){R:Int->Int->Hp->Prop}
 (hR:∀σ' ts',Ext F σ σ'->HH σ' (Grow F σ) {L with ts:=ts'} H->R ((pv c l:Nat):Int) 0 σ'):Yn.c (aW x.c.p) (k:Int) σ R:=by
 obtain⟨G,s,m,a⟩:=h.lX hx hg;refine Ra m hc hl λσ' Y' e d j=>?_;obtain⟨r,b⟩:=a σ' _ Y' d e j;have i:H.dY t g g.ls=H:=by
  unfold Hw.dY;rw[Ql hg]
 rw[i]at b;exact hR σ' _ r b
theorem Wkb (h:HH σ F L H)(hx:L.ts[t]?=some x)(hg:H.bQ[t]?=some g)(hc:H.tb[k]?=some c)(hl:g.ls[k]?=some l){sl:Sl}{xs:List Int}{X:Rg}(hs:cR sl 1 (Wv xs) σ X)(hX:∀q,X q->¬F q)(hfit:l.os.length+xs.length<=256){R:aN}
 (hR:∀σ' ts',Ext F σ σ'->HH σ' (Grow F σ) {L with ts:=ts'} (H.dY t g (g.ls.set k (eL xs.reverse l)))->R 0 σ'):Yi.c (aW x.c.p) (k:Int) sl σ R:=by
 obtain⟨G,m,j,a⟩:=h.lX hx hg;refine N2 j hc hl hs (λq b hg=>hX q b (m q hg)) hfit λσ' Y' e d i=>?_;obtain⟨s,r⟩:=a σ' _ Y' d e i;exact hR σ' _ s r
theorem LX (h:HH σ F L H)(hx:L.ts[t]?=some x)(hg:H.bQ[t]?=some g)(hc:H.tb[k]?=some c)(hl:g.ls[k]?=some l)(y:Int){R:Sl->Int->Hp->Prop}
 (hR:∀σ' ts' s e (Q:Rg),Ext F σ σ'->(∀q,Q q->σ.size<=q)->bR s 1 (Wv (dQ c y l).1) σ' Q->HH σ' (λb=>Grow F σ b/\¬Q b) {L with ts:=ts'} (H.dY t g (g.ls.set k (dQ c y l).2))->R s e σ'):YQ.c (aW x.c.p) (k:Int) y σ R:=by
 obtain⟨G,A,r,a⟩:=h.lR hx hg;refine Pr r hc hl y λσ' Y' s i Q e j _ d w m=>?_;obtain⟨z,u⟩:=a σ' _ Y' Q j e d m;exact hR σ' _ s i Q z d w u
theorem T5 (h:HH σ F L H)(hx:L.ts[t]?=some x)(hg:H.bQ[t]?=some g){R:aO}(hR:∀σ',bO σ σ'->R (decide (H.cf.dB<Qt H.tb g.ls)) σ'):Yp.c (aW x.c.p) σ R:=by
 obtain⟨G,d,b,a⟩:=h.lX hx hg;exact Mc b hR
theorem Oi (hso:H8)(h:HH σ F L H)(hx:L.ts[t]?=some x)(hg:H.bQ[t]?=some g){R:Sl->Hp->Prop}
 (hR:∀σ' s (Q:Rg),Ext F σ σ'->(∀q,Q q->σ.size<=q)->ik s (Ka ZX H.tb g.ls) σ' Q->HH σ' (λb=>Grow F σ b/\¬Q b) L (H.dY t g (Q6 ZX H.tb g.ls))->R s σ'):XS.c (aW x.c.p) σ R:=by
 obtain⟨G,w,m,a⟩:=h.lR hx hg;refine Mq hso m λσ' s Q e d j r=>?_;obtain⟨u,i⟩:=a σ' _ x.c Q rfl e d j;rw[show L.ts.set t {x with c:=x.c}=L.ts from Ql hx]at i;exact hR σ' s Q u d r i
theorem Tw (hso:H8)(h:HH σ F L H)(hx:L.ts[t]?=some x)(hg:H.bQ[t]?=some g){R:Sl->Hp->Prop}
 (hR:∀σ' s (Q:Rg),Ext F σ σ'->(∀q,Q q->σ.size<=q)->ik s (Ka KH H.tb g.ls) σ' Q->HH σ' (λb=>Grow F σ b/\¬Q b) L (H.dY t g (Q6 KH H.tb g.ls))->R s σ'):Xa.c (aW x.c.p) σ R:=by
 obtain⟨G,w,m,a⟩:=h.lR hx hg;refine κ hso m λσ' s Q e d j r=>?_;obtain⟨u,i⟩:=a σ' _ x.c Q rfl e d j;rw[show L.ts.set t {x with c:=x.c}=L.ts from Ql hx]at i;exact hR σ' s Q u d r i
def nE (S:aP)(L:dS)(tb:List bW):Prop:=∀m,S m->∃(P:Rg) (ts:List eB) (H:Hw),HH m P {L with ts:=ts} H/\H.tb=tb
theorem nE.dD {S:aP}{tb:List bW}(hS:nE S L tb){K:Sl->Prop}(hK:K L.dD):gP S .s (Addr.add ⟨L.p,0,none⟩ 0) K:=⟨L.dD,λm a=>by obtain⟨_,_,_,h,_⟩:=hS m a;rw[add_lit,h.hd.cell];rfl,hK⟩
theorem nE.fX {S:aP}{tb:List bW}(hS:nE S L tb){K:Sl->Prop}(hK:K L.fX):gP S .s (Addr.add ⟨L.p,0,none⟩ 7) K:=⟨L.fX,λm a=>by obtain⟨_,_,_,h,_⟩:=hS m a;rw[add_lit,h.hd.cell];rfl,hK⟩
theorem nE.rA {S:aP}{tb:List bW}(hS:nE S L tb)(h:HH σ F L H)(hy:L.ys[k]?=some Y){K:Option Addr->Prop}(hK:K (some ⟨Y.p,0,none⟩)):Ix L.fX.a L.fX.len (k:Int) 1 λa=>gP S .p a K:=by
 have i:(eW (L.ys.map (·.p)))[k]?=some (.pointer (some ⟨Y.p,0,none⟩)):=by simp[eW,hy]
 obtain⟨b,o,j,_⟩:=h.nB.cell i;have y:=(cQ.1 hy).1;have u:=h.jX;have:=h.s.ys;rw[j];refine ix O O ⟨_,λm r=>?_,hK⟩;obtain⟨_,_,_,g,_⟩:=hS m r;obtain⟨w,x,d,e⟩:=g.nB.cell i;rw[j]at d;cases d;rw[add_lit,show o+(k:Int).toNat*1=o+k by omega];exact e
theorem nE.rC {S:aP}(hS:nE S L H.tb)(h:HH σ F L H)(hc:H.tb[k]?=some c){K:Int->Prop}(hK:K (c.size:Int)):Ix L.dD.a L.dD.len (k:Int) 3 λa=>gP S bN (a.add 0) K:=by
 have g:(fZ H.tb)[3*k+0]?=some (.int .i64 (c.size:Int)):=(Hu hc).1;obtain⟨b,o,r,_⟩:=h.jI.cell g;have y:=(cQ.1 hc).1;have u:=h.nS;rw[r];refine ix O O ⟨_,λm s=>?_,hK⟩;obtain⟨_,_,_,p,j⟩:=hS m s;rw[←j]at g;obtain⟨w,x,d,e⟩:=p.jI.cell g;have d:L.dD.a=_:=d;rw[r]at d;cases d;rw[add_lit,add_lit,show o+(k:Int).toNat*3+0=o+(3*k+0) by omega];exact e
end Go.Ar
namespace Go.Ar
open Go Go.Vc Go.Proofs
variable {σ u u':Hp}{F B P Q:Rg}{L:dS}{H H':Hw}{t k n pb:Nat}{A:AR}{Y:Lay}{x:eB}{g:Th}{c:bW}{l:Li}{cs:List Value}{parts:List (List Int)}{xs:List Int}
theorem HK.AO (K:HK F σ B u P L H)(e:Ext B u u'){B':Rg}(hB:∀b,B' b->B b\/u.size<=b/\b<u'.size):HK F σ B' u' P L H:=by
 have r:=e.1;have j:=K.e.1;have i:iW B/\¬B 1:=⟨K.o.1.sub λb g=>(K.b b g).1,λg=>K.o.2 (K.b _ g).1⟩;refine⟨K.h.bU e (λb _ a d=>(K.p b a).2.1 d) i.1 i.2,K.e.fF e λb m=>.inr (K.b b m).1,λb a=>⟨(K.p b a).1,λg=>?_,by have:=(K.p b a).2.2;omega⟩,λb a=>?_,K.o⟩
 ·rcases hB b g with d|d
  ·exact(K.p b a).2.1 d
  ·have:=(K.p b a).2.2;omega
 ·rcases hB b a with d|d
  ·have:=K.b b d;omega
  ·omega
def sV (s:Sl):Value:=.slice s.a s.len s.cap
def m0 (pb:Nat)(parts:List (List Int)):Hp->Rg->Prop:=λu Q=>∃(ps:List Sl) (Qs:Nat->Rg),ps.length=parts.length/\Q pb/\bX u pb (ps.map sV)/\(∀j b,Qs j b->Q b/\b≠pb)/\(∀j j' b,Qs j b->Qs j' b->j=j') ∧
 ∀j s xs,ps[j]?=some s->parts[j]?=some xs->dM s 1 (Wv xs) u (Qs j)
theorem m0.loc (pb:Nat)(parts:List (List Int)):dR (m0 pb parts):=by
 rintro σ H F G ⟨B,Qs,z,y,r,i,x,D⟩ E g;have m:=g pb r.lt y;obtain⟨e,A⟩:=r;refine⟨B,λj b=>Qs j b/\b<σ.size,z,m.1,⟨e,m.2.trans A⟩,λj b d=>⟨(g b d.2 (i j b d.1).1).1,(i j b d.1).2⟩,λj C b a w=>x j C b a.1 w.1,λj s u a b=>(dM.loc _ _ _) _ _ _ _ (D j s u a b) E λb d p=>⟨⟨p,d⟩,(g b d (i j b p).1).2⟩⟩
theorem m0.add (h:m0 pb parts u Q){a m e1 e2:Nat}(hm:m=parts.length)(ha:parts[a]?=some xs)(y:Int)(hl:xs.length<=1000000){K:aP}(hK:∀u',Ext Q u u'->m0 pb (parts.set a (xs++[y])) u' (Grow Q u)->K u') :
 Ix (some ⟨pb,0,none⟩) m (a:Int) 1 λa1=>jn a1 u λt35=>Nw (.cells #[.int .i64 y] e1 (0,0)) u λn37 v4=>App t35 1 8 e2 [.int .i64 0] ⟨some n37,1,1⟩ v4 λt38 v5=>Ix (some ⟨pb,0,none⟩) m (a:Int) 1 λa39=>dG a39 (.slice t38.a t38.len t38.cap) v5 λv6=>K v6:=by
 obtain⟨B,Qs,h1,N,J,A,R,S⟩:=h;have M:=(cQ.1 ha).1;have z:B[a]?=some (B[a]' O):=cM _;generalize (B[a]' O)=s at z;have i:=S a s xs z ha;have hsl:s.len=xs.length:=by have:=i.1;simp[Wv]at this;omega
 refine ix O O ?_;rw[add_lit,show 0+(a:Int).toNat*1=a by omega];refine J.xU (a:=s.a) (n:=s.len) (c:=s.cap) (by simp[z,sV]) ?_;refine nw (cs:=[.int .i64 y]) λv4 hz e d=>?_;have r:=(dM.loc _ _ _).bK ((dM.loc _ _ _).cut i) e;have F:=e.bZ J id;refine r.app (x:=⟨some ⟨u.size,0,none⟩,1,1⟩) (ys:=[.int .i64 y]) rfl rfl ?_ (by simp[dN]) ?_ ?_ nA λs' v5 hl5 D H=>?_
 ·intro j w hw;rw[add_lit,zG,d.cell];exact hw
 ·simp only;omega
 ·simp only;omega
 have X:=D.1;have L:bX v5 pb (B.map sV):=D.bZ F λp=>(A a pb p.1).2 rfl;refine ix O O ?_;rw[add_lit,show 0+(a:Int).toNat*1=a by omega];refine L.s0 aE λu' P g=>?_;have U:=P.1;have G:Ext (· = pb) v5 u':=P.ext;have Y:Ext Q u u':=((bO.to e).trans (D.sub λb d=>(A a b d.1).1)).trans (G.sub λb d=>by rw[d];exact N);have W:=J.lt;refine hK u' Y ⟨B.set a s',λj b=>Qs j b/\b<u.size\/j=a/\v4.size<=b/\b<v5.size,by simp[h1],.inl N,?_,λj b d=>?_,λj j' b d g=>?_,λj V ys E C=>?_⟩
 ·rw[ue];exact g
 ·rcases d with d|d
  ·exact⟨.inl (A j b d.1).1,(A j b d.1).2⟩
  ·exact⟨.inr O,O⟩
 ·rcases d with d|d<;>rcases g with g|g
  ·exact R j j' b d.1 g.1
  ·omega
  ·omega
  ·omega
 ·by_cases hja:j=a
  ·subst hja;rw[zM O]at E;rw[zM M]at C;cases E;cases C;have:=(dM.loc _ _ _).bU ((dM.loc _ _ _).cut H) G λb _ d p=>by
    rcases d.1 with h7|h7
    ·exact(A j b h7.1).2 p
    ·omega
   have Z:Wv (xs++[y])=Wv xs++[.int .i64 y]:=by simp[Wv]
   rw[Z];refine(dM.loc _ _ _).mono this λb _ d=>?_;rcases d.1 with h7|h7
   ·exact .inl h7
   ·exact .inr ⟨rfl,h7,d.2⟩
  ·rw[zi (Ne.symm hja)]at E C;have:=(dM.loc _ _ _).cut (S j V ys E C);have:=(dM.loc _ _ _).bU ((dM.loc _ _ _).bU ((dM.loc _ _ _).bK this e) D λb _ d p=>hja (R j a b d.1 p.1)) G λb _ d p=>(A j b d.1).2 p;exact(dM.loc _ _ _).mono this λb _ d=>.inl d
theorem m0.get (h:m0 pb parts u Q){a m:Nat}(hm:m=parts.length)(ha:parts[a]?=some xs){K:Sl->Prop}(hK:∀s,dM s 1 (Wv xs) u Q->s.len=xs.length->K s):Ix (some ⟨pb,0,none⟩) m (a:Int) 1 λa1=>jn a1 u K:=by
 obtain⟨g,Qs,x,z,w,r,y,j⟩:=h;have i:=(cQ.1 ha).1;have e:g[a]?=some (g[a]' O):=cM _;generalize (g[a]' O)=s at e;have d:=j a s xs e ha;refine ix O O ?_;rw[add_lit,show 0+(a:Int).toNat*1=a by omega];refine w.xU (a:=s.a) (n:=s.len) (c:=s.cap) (by simp[e,sV]) (hK s ((dM.loc _ _ _).mono d λb _ p=>(r a b p).1) ?_);have:=d.1;simp[Wv]at this;omega
theorem Dc {bT:List AR}{x:Int}(h:0<=YJ bT x):(YJ bT x).toNat<bT.length/\YJ bT x=((YJ bT x).toNat:Int):=by
 refine⟨?_,O⟩;unfold YJ at *;split at h
 ·omega
 ·rename_i hx;rw[zA hx];split at h
  ·rename_i i hi;have:=(x8.1 hi).1;simp only[dC];exact this
  ·omega
theorem TX {bT:List AR}{x:Int}{xs:List Int}(h:0<=YJ bT x):((List.range bT.length).map (ZV bT xs)).set (YJ bT x).toNat (ZV bT xs (YJ bT x).toNat++[x])=(List.range bT.length).map (ZV bT (xs++[x])):=by
 have a:=Dc h;apply zz;intro j;by_cases hj:j<bT.length
 ·by_cases e:(YJ bT x).toNat=j
  ·subst e;rw[zM (by simpa using hj)];simp only[ze,nR hj,zf,ZV,uI]
   congr 2
   rw[tj (by rw[←a.2];simp)];rfl
  ·rw[zi e];simp only[ze,nR hj,zf,ZV,uI];have:List.filter (λy=>YJ bT y==(j:Int)) [x]=[]:=by
    rw[uo (by simp only[zZ];omega)];rfl
   rw[this,j8]
 ·rw[zY aE,zY aE]
theorem UC {K:aO}{body:(Bool->Hp->Prop)->Prop}(P:aO)(h1:∀r w,P r w->K r w)(h2:∀J:Bool->Hp->Prop,(∀r w,P r w->J r w)->body J):bY K body:=bY.intro (h2 K h1)
theorem BM {K:eP [.b]}{body:eP [.b]->Prop}(P:aO)(h1:∀r w,P r w->K r w)(h2:∀J:eP [.b],(∀r w,P r w->J r w)->body J):Jn [.b] K body:=Jn.intro (h2 K h1)
theorem qy {K:eP []}{body:eP []->Prop}(P:aP)(h1:∀w,P w->K w)(h2:∀J:eP [],(∀w,P w->J w)->body J):Jn [] K body:=Jn.intro (h2 K h1)
theorem Vg {H:Hw}{k:Nat}{part:Nat->List Int}(j:Nat):Vp H k part (List.range (j+1))=(match (Vp H k part (List.range j)).bT[j]? with
 | some A=>if part j=[]then Vp H k part (List.range j)else(Vp H k part (List.range j)).cB j (Zg A (k:Int) (part j))
 | none=>Vp H k part (List.range j)):=by
 unfold Vp;rw[j7,mN];rfl
theorem PA {H:Hw}{k:Nat}{part:Nat->List Int}(j:Nat):(Vp H k part (List.range j)).bT.length=H.bT.length:=by
 induction j with
 | zero=>rfl
 | succ j ih=>
  rw[Vg];split
  ·split
   ·exact ih
   ·simp[Hw.cB,ih]
  ·exact ih
theorem WgY {H:Hw}{k:Nat}{part:Nat->List Int}(j:Nat):(Vp H k part (List.range j)).bQ=H.bQ:=by
 induction j with
 | zero=>rfl
 | succ j ih=>
  rw[Vg];split
  ·split<;>exact ih
  ·exact ih
theorem AF (H:Hw)(own k:Nat)(xs:List Int):(HU H own k xs).bQ=H.bQ:=by
 unfold HU;split
 ·split
  ·rfl
  ·rw[WgY];split<;>rfl
 ·rfl
def AU (F:Rg)(σ:Hp)(L:dS)(H:Hw)(pb:Nat)(parts:List (List Int))(cs:List Value)(w:Hp):Prop:=∃Q P:Rg,HK F σ (λb=>b=σ.size\/Q b) w P L H/\m0 pb parts w Q/\bX w σ.size cs/\∀b,Q b->b≠σ.size
theorem O3 (h:HH σ F L H){own:Nat}(ho:own<H.bT.length)(k:Nat){sl:Sl}{xs:List Int}{X:Rg}(hs:cR sl 1 (Wv xs) σ X)(hX:∀b,b<σ.size->X b->¬F b)(hcap:sl.len<=sl.cap)(hx:∀x∈xs,iL x/\0<=YJ H.bT x)(hl:xs.length<=1000000){R:aP}
 (hR:∀σ',Ext F σ σ'->HH σ' (Grow F σ) L (HU H own k xs)->R σ'):ZB.c (aW L.p) (own:Int) (k:Int) sl σ R:=by
 refine ZB.o ?_;unfold ZB.v;have hsl:sl.len=xs.length:=by have:=hs.1;simp[Wv]at this;omega
 have ha2:=h.s.a2;have hal:=h.jX;have hs1:∀u,Ext F σ u->cR sl 1 (Wv xs) u (λb=>X b/\b<σ.size):=λu eu=>aH.bU (aH.cut hs) eu λb _ hx hf=>hX b hx.2 hx.1 hf;refine nw (cs:=[.int .i64 (k:Int),.slice sl.a sl.len sl.cap]) λv hz e d=>?_;have K1:=(HK.start h).box e hz;refine aG (K1.h.hd.rS rfl ?_);simp only;refine mk (n:=L.fX.len) O O λv1 ah D hb1=>?_;have K2:=K1.box D ah;have hb2:=D.bZ d id;have V:m0 v.size ((List.range H.bT.length).map (ZV H.bT [])) v1 (λb=>b=v.size):=by
  refine⟨List.replicate H.bT.length ⟨none,0,0⟩,λ_ _=>False,by simp,rfl,?_,λj b d=>d.elim,λj j' b d=>d.elim,λj s ys g h2=>?_⟩
  ·have:(List.replicate L.fX.len [Value.slice none 0 0]).flatten=(List.replicate H.bT.length (⟨none,0,0⟩:Sl)).map sV:=by
    rw[hal];simp[sV]
   rw[←this];exact hb1
  ·simp only[ze,rF]at h2;obtain⟨a,_,rfl⟩:=h2;simp only[nk]at g;split at g
   ·cases g;exact dM.nil _ _ _ _
   ·cases g
 have ag:∀ys:List Int,L.fX.len=((List.range H.bT.length).map (ZV H.bT ys)).length:=λys=>by simp[hal]
 refine hb2.rS rfl ?_;refine ZU (a:=bN) (λ(z:Int) w=>∃i:Nat,z=(i:Int)/\i<=xs.length/\AU F σ L H v.size ((List.range H.bT.length).map (ZV H.bT (xs.take i))) [.int .i64 (k:Int),.slice sl.a sl.len sl.cap] w) (λz _=>xs.length-z.toNat)
  ⟨0,rfl,O,λb=>b=v.size,_,⟨K2.h,K2.e,λb d=>⟨(K2.p b d).1,λhx=>(K2.p b d).2.1 (hx.imp .inr id),(K2.p b d).2.2⟩,λb d=>K2.b b (d.imp .inr id),K2.o⟩,V,hb2,λb d=>O⟩ ?_
 rintro z w ⟨i,rfl,hi,Q,P,K,V,C,hQ⟩;refine cI (λM=>?_) λhge=>?_
 ·simp only at M;have hi':i<xs.length:=by omega
  have aa:xs[i]?=some xs[i]:=cM hi';generalize xs[i]=y at aa;have hy:=hx y (zE aa);refine(hs1 w K.e).pK aa (AS K.h y hy.1 λZ D=>?_);have M:=Dc hy.2;rw[M.2];have hP1:m0 v.size _ Z (λb=>Q b/\b<w.size):=(m0.loc _ _).bK ((m0.loc _ _).cut V) D;have af:((List.range H.bT.length).map (ZV H.bT (xs.take i)))[(YJ H.bT y).toNat]?=some (ZV H.bT (xs.take i) (YJ H.bT y).toNat):=by
   simp only[ze,nR M.1,zf]
  have hpl1:(ZV H.bT (xs.take i) (YJ H.bT y).toNat).length<=1000000:=by
   have:=nh (λx=>YJ H.bT x==(((YJ H.bT y).toNat:Nat):Int)) (xs.take i);simp only[ZV];rw[zO]at this;omega
  refine hP1.add (ag _) af y hpl1 λw2 e2 ae=>?_;rw[TX hy.2]at ae;have ht:xs.take i++[y]=xs.take (i+1):=by rw[zg,aa];rfl
  rw[ht]at ae;have ah:=D.1;have hz2:=e2.1;refine cA (m:=i+1) O O ⟨⟨i+1,rfl,O,λb=>(Q b/\b<w.size)\/Z.size<=b/\b<w2.size,P,(K.fr D).AO (e2.sub λb d=>.inr d.1) λb d=>?_,(m0.loc _ _).mono ae λb d S=>?_,?_,λb d=>?_⟩,O⟩
  ·rcases d with d|d|d
   ·exact .inl (.inl d)
   ·exact .inl (.inr d.1)
   ·exact .inr d
  ·rcases S with S|S
   ·exact .inl S
   ·exact .inr ⟨S,d⟩
  ·exact e2.bZ (D.bZ C id) λhx=>hQ _ hx.1 rfl
  ·have:=(K.b σ.size (.inl rfl)).2;rcases d with d|d
   ·exact hQ b d.1
   ·omega
 ·have hii:i=xs.length:=by simp only at hge;omega
  subst hii;rw[zn]at V;obtain⟨A,hA⟩:∃A,H.bT[own]?=some A:=⟨_,cM ho⟩;obtain⟨Y,hY,_,_⟩:=h.ar hA;have G:HU H own k xs=(if(ZV H.bT xs own).length=xs.length/\Vm A (k:Int) xs=true then H.cB own (Q7 A (k:Int) xs)
   else Vp (if(ZV H.bT xs own).length=xs.length then H.cB own (Q7 A (k:Int) xs)else H) k (ZV H.bT xs) (List.range H.bT.length)):=by
   unfold HU;rw[hA]
  have hown:((List.range H.bT.length).map (ZV H.bT xs))[own]?=some (ZV H.bT xs own):=by
   simp only[ze,nR ho,zf]
  refine qy (λw=>¬((ZV H.bT xs own).length=xs.length/\Vm A (k:Int) xs=true)/\AU F σ L (if(ZV H.bT xs own).length=xs.length then H.cB own (Q7 A (k:Int) xs)else H) v.size ((List.range H.bT.length).map (ZV H.bT xs)) [.int .i64 (k:Int),.slice sl.a sl.len sl.cap] w) (λw hw=>?_) λJ hJ=>?_
  ·obtain⟨hno,hw⟩:=hw;rw[zA hno]at G;generalize hH1:(if(ZV H.bT xs own).length=xs.length then H.cB own (Q7 A (k:Int) xs)else H)=H1 at hw G
   have hH1l:H1.bT.length=H.bT.length:=by
    rw[←hH1];split
    ·simp[Hw.cB]
    ·rfl
   refine ZU (a:=bN) (λ(z:Int) w=>∃j:Nat,z=(j:Int)/\j<=H.bT.length/\AU F σ L (Vp H1 k (ZV H.bT xs) (List.range j)) v.size ((List.range H.bT.length).map (ZV H.bT xs)) [.int .i64 (k:Int),.slice sl.a sl.len sl.cap] w) (λz _=>H.bT.length-z.toNat) ⟨0,rfl,O,hw⟩ ?_;rintro z w ⟨j,rfl,hj,Q,P,K,V,C,hQ⟩;refine cI (λM=>?_) λhge=>?_
   ·simp only at M;have hj':j<H.bT.length:=by omega
    have hpj:((List.range H.bT.length).map (ZV H.bT xs))[j]?=some (ZV H.bT xs j):=by
     simp only[ze,nR hj',zf]
    refine V.get (ag _) hpj λs W U=>?_;have hfl:=PA (H:=H1) (k:=k) (part:=ZV H.bT xs) j;obtain⟨B,hB⟩:∃B,(Vp H1 k (ZV H.bT xs) (List.range j)).bT[j]?=some B:=⟨_,cM O⟩;have E:=Vg (H:=H1) (k:=k) (part:=ZV H.bT xs) j;rw[hB]at E;simp only at E;refine cI (λhpos=>?_) λhz0=>?_
    ·have N:ZV H.bT xs j≠[]:=λe=>by rw[e]at U;simp at U;omega
     rw[zA N]at E;obtain⟨Y,hY,_,_⟩:=K.h.ar hB;refine aG (K.h.hd.rS rfl (K.h.rA hY (C.rI rfl ?_)));refine Mj K.h hB hY (k:Int) (dM.gp W) (λb _ S hp=>(K.p b hp).2.1 (.inr S)) (λx hx'=>(hx x (zH.1 hx').1).1) ?_ (dM.cap W) λZ D g=>?_
     ·have:=nh (λx=>YJ H.bT x==(j:Int)) xs;simp only[ZV];omega
     ·have ah:=D.1;rw[←E]at g;refine cA (m:=j+1) O O ⟨⟨j+1,rfl,O,Q,_,K.to D g λb _ d=>d,(m0.loc _ _).bU V D λb _ S hp=>(K.p b hp).2.1 (.inr S),K.cW D C (.inl rfl),hQ⟩,O⟩
    ·have N:ZV H.bT xs j=[]:=DV O;rw[zB N]at E;refine cA (m:=j+1) O O ⟨⟨j+1,rfl,O,Q,P,by rw[E];exact K,V,C,hQ⟩,O⟩
   ·have hjj:j=H.bT.length:=by simp only at hge;omega
    subst hjj;rw[G]at hR;exact hR w K.e (K.fin h)
  ·refine V.get (ag _) hown λs W U=>C.rS rfl ?_;refine cU (λheq=>?_) λN=>?_
   ·have ab:(ZV H.bT xs own).length=xs.length:=by simp only[zZ]at heq;omega
    rw[zB ab]at G hJ;have hS:nE (λu=>(∃P' H',HH u P' L H'/\H'.tb=H.tb)/\bX u σ.size [.int .i64 (k:Int),.slice sl.a sl.len sl.cap]) L H.tb:=λm hm=>by
     obtain⟨⟨P',H',g,h2⟩,_⟩:=hm;exact⟨P',L.ts,H',g,h2⟩
    refine⟨λu=>(∃P' H',HH u P' L H'/\H'.tb=H.tb)/\bX u σ.size [.int .i64 (k:Int),.slice sl.a sl.len sl.cap],⟨⟨_,_,K.h,rfl⟩,C⟩,aG (hS.fX (hS.rA K.h hY ?_))⟩;refine⟨(k:Int),λm hm=>by rw[add_lit,hm.2.cell];rfl,⟨sl,λm hm=>by rw[add_lit,hm.2.cell];rfl,?_⟩⟩;refine Rf K.h hA hY (k:Int) (hs1 w K.e) (λx hx'=>(hx x hx').1) λZ D g=>?_;have K1:=K.to D g λb _ d=>d;refine⟨⟨⟨_,_,g,rfl⟩,K.cW D C (.inl rfl)⟩,?_⟩;have fin:∀r,r=Vm A (k:Int) xs->((r=true->R Z)/\(r=false->J Z)):=λr hr=>by
     refine⟨λad=>?_,λad=>hJ Z ⟨λhx=>Bool.noConfusion ((ad.symm.trans hr).trans hx.2),Q,_,K1,(m0.loc _ _).bU V D λb _ S hp=>(K.p b hp).2.1 (.inr S),K.cW D C (.inl rfl),hQ⟩⟩;rw[zB ⟨ab,by rw[←hr,ad]⟩]at G;rw[G]at hR;exact hR Z K1.e (K1.fin h)
    refine UC (λr w=>w=Z/\r=Vm A (k:Int) xs) (λr w' ⟨hw,hr⟩=>?_) λJ3 hJ3=>?_
    ·subst hw;exact cU (λg=>(fin r hr).1 g) λg=>(fin r hr).2 g
    ·refine cU (λg=>hJ3 _ _ ⟨rfl,?_⟩) λg=>hJ3 _ _ ⟨rfl,g.symm⟩;have:Hx A (k:Int) xs=0:=by
      unfold Vm at g;simp only[zF,zT]at g;exact g.1
     rw[this,g];rfl
   ·have ac:¬(ZV H.bT xs own).length=xs.length:=by
     simp only[m8]at N;omega
    rw[zA ac]at hJ;exact hJ w ⟨λhx=>ac hx.1,Q,P,K,V,C,hQ⟩
theorem gS {w:Hp}(K:HK F σ B w P L H)(hB:B n){p q:Int}(hb:bX w n [.int .i64 p,.int .i64 q]){x y:Int}{K':Int->Int->Hp->Prop}(hK:∀w',HK F σ B w' P L H->K' x y w') :
 dG (Addr.add ⟨n,0,none⟩ 0) (.int .i64 x) w λv3=>dG (Addr.add ⟨n,0,none⟩ 1) (.int .i64 y) v3 λv4=>fJ .i64 (Addr.add ⟨n,0,none⟩ 0) v4 λres=>fJ .i64 (Addr.add ⟨n,0,none⟩ 1) v4 λpM=>K' res pM v4:=
 hb.s1 aA λv3 o3 b=>b.s1 aA λv4 o4 a=>a.rI rfl (a.rI rfl (hK v4 ((K.own o3 hB).own o4 hB)))
theorem P4 (h:HH σ F L H)(ht:t<H.bQ.length)(x:Int)(hx:iL x)(hr:bV H.live x=none->∀A∈H.bT,ja A)(hlen:∀g,H.bQ[t]?=some g->g.bP.length<=1000)(h0:∀b,bV H.live x=some b->0<=x){R:Value->Int->Int->Hp->Prop}
 (hR:∀σ' ts',Ext F σ σ'->HH σ' (Grow F σ) {L with ts:=ts'} (UY H t x).1->R (nu (UY H t x).2.1) (UY H t x).2.2.1 (UY H t x).2.2.2 σ'):Zz.c (aW L.p) (t:Int) x σ R:=by
 refine Zz.o ?_;unfold Zz.v;refine nw (cs:=[.int .i64 0,.int .i64 0]) λv hz e hb=>?_;have K1:=(HK.start h).box e hz;refine aG (K1.h.hd.rM rfl ⟨_,K1.h.kG,?_⟩);refine nw (cs:=[.int .i64 0,.int .i64 0,.int .i64 0,.int .i64 0]) λv1 hz1 e1 hb1=>?_;have K2:=K1.box e1 hz1;have hbv:=e1.bZ hb id;have m:σ.size≠v.size:=by omega
 refine hb1.s1 aA λv2 o2 b2=>b2.s1 aA λv3 o3 b3=>b3.s1 aA λv4 o4 b4=>b4.s1 aA λv5 o5 b5=>?_;have K5:=(((K2.own o2 (.inr rfl)).own o3 (.inr rfl)).own o4 (.inr rfl)).own o5 (.inr rfl);have G:=Ws o5 (Ws o4 (Ws o3 (Ws o2 hbv m) m) m) m;have hL:L = {L with ts:=L.ts}:=rfl;cases hm:bV H.live x with
 | none=>
  have hno:UY H t x=(H,none,0,mB H x):=by unfold UY;rw[hm]
  rw[hno]at hR;simp only at hR;refine cJ rfl ?_;refine qy (λw=>mB H x=8/\bO v5 w) (λw ⟨h8,ew⟩=>?_) λJ K=>?_
  ·rw[h8]at hR;exact gS (n:=σ.size) (K5.fr ew) (.inl (.inr rfl)) (ew.bZ G id) λz K'=>hR z L.ts K'.e (K'.fin h)
  ·refine AS K5.h x hx λv9 W=>?_;have K9:=K5.fr W;have hb9:=W.bZ G id;refine cI (λab=>?_) λhlt=>K v9 ⟨zA O,W⟩;have N:=Dc ab;obtain⟨A,hA⟩:∃A,H.bT[(YJ H.bT x).toNat]?=some A:=⟨_,cM N.1⟩;obtain⟨Y,hY,_,hAY⟩:=K9.h.ar hA;have a:mB H x=(match U8 A x with
    | some (k,y)=>if 0<=k/\(y:Int)=x then(9:Int)else 8
    | none=>8):=by unfold mB;rw[zB ab,hA];rfl
   rw[N.2];refine aG (K9.h.hd.rS rfl (K9.h.rA hY ?_));refine SF hAY (hr hm A (zE hA)) x hx (λB k y d hf=>?_) λB d hf=>?_
   ·rw[hf]at a;simp only at a;rw[a]at hR K;have K10:=K9.fr d;have S:=d.bZ hb9 id;refine UC (λr w=>w=B/\r=decide (0<=k)) (λr w ⟨P,i⟩=>?_) λJ1 C=>?_
    ·subst P;subst i;refine UC (λr w2=>w2=w/\r=decide (0<=k/\(y:Int)=x)) (λr w2 ⟨P,i⟩=>?_) λJ2 X=>?_
     ·subst i;rw[P];refine cI (λE=>?_) λE=>?_
      ·rw[zB E]at hR;exact gS (n:=σ.size) K10 (.inl (.inr rfl)) S λz K'=>hR z L.ts K'.e (K'.fin h)
      ·exact K w ⟨zA E,W.trans d⟩
     ·refine cI (λE=>X _ _ ⟨rfl,?_⟩) λE=>X _ _ ⟨rfl,?_⟩
      ·by_cases hyx:(y:Int)=x
       ·rw[zW (⟨E,hyx⟩:0<=k/\(y:Int)=x),zZ.2 hyx]
       ·rw[zh (λhx=>hyx hx.2),m8.2 hyx]
      ·rw[zh (λhx=>E hx.1)]
    ·exact cJ rfl (C _ _ ⟨rfl,rfl⟩)
   ·rw[hf]at a;simp only at a;rw[a]at K;refine UC (λr w=>w=B/\r=false) (λr w ⟨P,i⟩=>?_) λJ1 C=>cG rfl (C _ _ ⟨rfl,rfl⟩);subst P;subst i;exact bY.intro (cG rfl (cG rfl (K w ⟨rfl,W.trans d⟩)))
 | some b=>
  have hb0:=h0 b hm;have hfd:UY H t x=(if b.2.2.1<0 then({H with live:=cT H.live x},some (.dJ (x/256) b.2.2.2),0,0)
   else(QP {H with live:=cT H.live x} t b.2.2.1.toNat [x],some (.put b.2.2.1.toNat x),0,0)):=by unfold UY;rw[hm]
  rw[hfd]at hR;have hgb:(bV H.live x).getD ((0,0,0,0):Bk)=b:=by rw[hm];rfl
  rw[hgb]at b5;refine cG rfl ?_;refine aG (K5.h.hd.rM rfl ?_);obtain⟨hF,M⟩:=K5.h.sB;refine⟨_,K5.h.kG,λv6 o6 _ hm6=>?_⟩;obtain⟨e6,h6⟩:=M v6 _ (o6 _ rfl) hm6;have K6:=K5.to e6 h6 λb _ hb=>.inl hb;have aa:=K5.cW e6 G (.inl (.inr rfl));have s:=K5.cW e6 b5 (.inr rfl);refine s.rI rfl (cI (λZ=>?_) λhnn=>?_)
  ·have D:b.2.2.1<0:=Z;rw[zB D]at hR;refine nz aB (ar (by rw[YK O];omega) (by rw[YK O];unfold iL at hx;omega) (s.rI rfl ?_));rw[YK O];exact gS (n:=σ.size) K6 (.inl (.inr rfl)) aa λz K'=>hR z L.ts K'.e (K'.fin h)
  ·have Q:¬b.2.2.1<0:=hnn;rw[zA Q]at hR;refine s.rI rfl (nw (cs:=[.int .i64 x]) λv7 hz7 e7 hb7=>?_);have K7:=K6.box e7 hz7;have U:=e7.bZ aa id;have hc7:=e7.bZ s id;have V:b.2.2.1=((b.2.2.1.toNat:Nat):Int):=by omega
   have hs7:cR ⟨some ⟨v6.size,0,none⟩,1,1⟩ 1 (Wv [x]) v7 (· = v6.size):=hb7.gp (o:=0) rfl rfl λj hj=>by rw[zG];rfl
   have hz6:=K6.e.1;rw[V];refine y6 K7.h (t:=t) ht b.2.2.1.toNat hs7 (zD _) aA (λq _ u hp=>(K7.p q hp).2.1 (.inr u)) (K7.o.1.sub λq u=>O) (λu=>K7.o.2 O) hlen λv8 ts8 e8 h8=>?_;have K8:=(K6.fr e7).tQ e8 h8 λq hql u=>by
    rcases u with u|u
    ·exact u.imp id .inl
    ·refine .inr (.inr ⟨.inr O,λhB=>?_⟩);have:=(K6.b q hB).2;omega
   have hb8:=K7.cW e8 U (.inl (.inl (.inr rfl)));have hc8:=K7.cW e8 hc7 (.inl (.inr rfl));refine hc8.rI (x:=((b.2.2.1.toNat:Nat):Int)) (by rw[←V];rfl) ?_;exact gS (n:=σ.size) K8 (.inl (.inr rfl)) hb8 λz K'=>hR z ts8 K'.e (K'.fin h)
end Go.Ar
namespace Go.Ar
open Go Go.Vc Go.Proofs
variable {σ u u':Hp}{F B P Q:Rg}{L:dS}{H H':Hw}{t k n pb:Nat}{A:AR}{Y:Lay}{x:eB}{g:Th}{c:bW}{l:Li}{cs:List Value}
theorem rJ {t' t:TypeId}{w:Value}{A B:Prop}(hne:t'≠t)(h:B):∃is:Bool,kI (.iface t' w) t [] [] is/\If is A B:=⟨false,⟨rfl,.inr ⟨_,_,rfl,hne⟩⟩,cG rfl h⟩
theorem lA {t' t:TypeId}{w:Value}{A B:Int->Prop}(hne:t'≠t)(h:B 0):∃x:Int,∃is:Bool,kI (.iface t' w) t [.int .i64 x] [.int .i64 0] is/\If is (A x) (B x):=⟨0,false,⟨rfl,.inr ⟨_,_,rfl,hne⟩⟩,cG rfl h⟩
theorem jE {t' t:TypeId}{w:Value}{A B:Int->Int->Prop}(hne:t'≠t)(h:B 0 0):∃x:Int,∃y:Int,∃is:Bool,kI (.iface t' w) t [.int .i64 x,.int .i64 y] [.int .i64 0,.int .i64 0] is/\If is (A x y) (B x y):=⟨0,0,false,⟨rfl,.inr ⟨_,_,rfl,hne⟩⟩,cG rfl h⟩
theorem A6 {t:TypeId}{A B:Prop}(h:A):∃is:Bool,kI (.iface t (.agg #[])) t [] [] is/\If is A B:=⟨true,rfl,cJ rfl h⟩
theorem Da {t:TypeId}{a:Int}{A B:Int->Prop}(h:A a):∃x:Int,∃is:Bool,kI (.iface t (.agg #[.int .i64 a])) t [.int .i64 x] [.int .i64 0] is/\If is (A x) (B x):=⟨a,true,rfl,cJ rfl h⟩
theorem wY {t:TypeId}{a b:Int}{A B:Int->Int->Prop}(h:A a b):∃x:Int,∃y:Int,∃is:Bool,kI (.iface t (.agg #[.int .i64 a,.int .i64 b])) t [.int .i64 x,.int .i64 y] [.int .i64 0,.int .i64 0] is/\If is (A x y) (B x y):=⟨a,b,true,rfl,cJ rfl h⟩
theorem HH.tc (h:HH u P L H)(hx:L.ts[t]?=some x)(hg:H.bQ[t]?=some g){b o:Nat}(ha:L.cL.a=some ⟨b,o,none⟩){d:Nat}(hd:d<3){v:Value}(hv:(jM (x,g))[d]?=some v):cell u (Addr.add ⟨b,o+3*t,none⟩ d)=some v:=by
 obtain⟨m,j,e,i⟩:=Uj h.kr hx hg hd hv;rw[ha]at e;cases e;rw[add_lit,show o+3*t+d=o+(3*t+d) by omega];exact i
theorem HH.xD (h:HH u P L H)(hP:∀b,P b->b<u.size)(hx:L.ts[t]?=some x)(hg:H.bQ[t]?=some g)(N:Rg)(hN:∀b,b<u.size->P b->¬N b)(oN:iW N)(oN2:¬N 1) :
 ∃G D:Rg,(∀b,G b->P b)/\(∀b,D b->P b)/\(∀b,G b->¬D b)/\ik x.h g.bP u G/\(∀u1,Ext G u u1->cR L.cL 3 (gY L.ts H.bQ) u1 D) ∧
 ∀(u1:Hp) (s:Sl) (bs:List Bt) (G':Rg),Ext G u u1->(∀b,G' b->G b\/N b)->ik s bs u1 G'->∀{b o:Nat} (ha:L.cL.a=some ⟨b,o,none⟩) {K:aP},
  (∀u2,Ext D u1 u2->HH u2 (λb=>P b/\¬G b\/G' b/\b<u1.size) {L with ts:=L.ts.set t {x with h:=s}} {H with bQ:=H.bQ.set t {g with bP:=bs}}->K u2) →
  dG (Addr.add ⟨b,o+3*t,none⟩ 1) (.slice s.a s.len s.cap) u1 K:=by
 have X:=h.jf;have J:=Gm h.s.ts;have U:=(cQ.1 hg).1;obtain⟨G,D,B,y,hd,R,F,_,p⟩:=h.r9 hx hg N hN oN oN2;have r:∀u1,Ext G u u1->bR L.cL 3 (gY L.ts H.bQ) u1 D:=λu1 e=>aI.bU F e λb _ d hx=>hd b hx d;refine⟨G,D,B,y,hd,R,λu1 e=>bR.gp (r u1 e),λu1 s bs G' e i C b o ha K S=>?_⟩;have Q:o=0:=by
  rcases F.2 with⟨h0,_⟩|⟨M,_,_,ha',_⟩
  ·omega
  ·rw[ha]at ha';cases ha';rfl
 subst Q;have m:∀b,G' b->¬D b:=λb d hx=>by
  rcases i b d with h1|h1
  ·exact hd b h1 hx
  ·exact hN b (hP b (y b hx)) (y b hx) h1
 refine(r u1 e).st (j:=3*t+1) O (λM w=>by rw[ha]at w;cases w;rw[add_lit];congr 1;omega) λu2 E z=>?_;have A:=(ik.loc _ _).bU ((ik.loc _ _).cut C) E λb _ d hx=>m b d.1 hx;obtain⟨W,V⟩:=p u2 s bs (Cut G' u1) D ((e.sub λb d=>.inl d).trans (E.sub λb d=>.inr d)) (λb d=>(i b d.1).imp .inl id) (λb d=>.inl (.inr d)) (λb d=>m b d.1) A z;refine S u2 E (V.mono (λb _ d=>?_) (λb (d:P b/\¬G b\/G' b/\b<u1.size)=>?_) λ(d:P _/\¬G _\/G' _/\_<u1.size)=>?_)
 ·rcases d with d|d|d
  ·exact .inl ⟨d.1,λhx=>d.2.2 (.inl hx)⟩
  ·exact .inr d
  ·exact .inl ⟨y b d,λhx=>hd b hx d⟩
 ·rcases d with d|d
  ·exact h.o b d.1
  ·exact(i b d.1).elim (λhx=>h.o b (B b hx)) (oN b)
 ·rcases d with d|d
  ·exact h.o2 d.1
  ·exact(i _ d.1).elim (λhx=>h.o2 (B _ hx)) oN2
theorem ik.m4 {s:Sl}{G:Rg}{xs:List Int}{r:List Bt}(h:ik s ((k,xs)::r) u G):∃(so:Sl) (ps:List (Nat×Sl)) (D:Rg),dM s 2 (fK ((k,so)::ps)) u (λb=>G b/\¬D b)/\cR so 1 (Wv xs) u (λb=>D b/\lu so b)/\so.len<=so.cap/\k7 ps r u (λb=>D b/\¬lu so b)/\(∀b,D b->G b)/\uH ps/\(∀x∈r,x.2≠[])/\xs≠[]:=by
 obtain⟨ps,D,d,j,J,F,g⟩:=h;cases ps with
 | nil=>have:=j.1;simp at this
 | cons p ps=>
  obtain⟨E,so⟩:=p;obtain⟨B,z,y⟩:=j.2 0 (E,so) (k,xs) rfl rfl;simp only at B z y;subst B;have e:=mM.1 F;refine⟨so,ps,D,d,z.yR,y,⟨by have:=j.1;simpa using this,λi p x w m=>?_⟩,J,e.2,λx m=>g x (kM _ m),g _ lf⟩;obtain⟨C,K,L⟩:=j.2 (i+1) p x (by simpa using w) (by simpa using m);refine⟨C,aH.mono K.yR λb _ A=>⟨A.1,?_⟩,L⟩;rintro⟨a,h1,h2⟩;obtain⟨H,N,M⟩:=A.2;exact e.1 p (zE w) a H h1 N (h2.trans M.symm)
theorem ik.mj {s:Sl}{G:Rg}{b:Bt}{r:List Bt}(h:ik s (b::r) u G):ik ⟨if s.cap=1 then s.a else s.a.map (·.add (1*2)),s.len-1,s.cap-1⟩ r u G:=by
 have p:=h.len;obtain⟨k,x⟩:=b;obtain⟨B,m,D,d,z,y,g,j,i,e,A⟩:=h.m4;exact⟨m,D,d.from (lo:=1) (by simp at p;omega),(k7.loc _ _).mono g λb _ w=>w.1,j,i,e⟩
theorem IV {s so:Sl}{ps:List (Nat×Sl)}{G:Rg}(h:cR s 2 (fK ((k,so)::ps)) u G){K:Addr->Prop}(hK:∀a,cell u (Addr.add a 0)=some (.int .i64 (k:Int))->cell u (Addr.add a 1)=some (.slice so.a so.len so.cap)->K a):Ix s.a s.len 0 2 K:=by
 obtain⟨b,o,i,m⟩:=h.cell (j:=0) (v:=.int .i64 (k:Int)) rfl;obtain⟨p,r,d,e⟩:=h.cell (j:=1) (v:=.slice so.a so.len so.cap) rfl;have g:=h.1;rw[KF]at g;simp only[zP]at g;rw[i]at d;cases d;rw[i];refine ix O O ?_;rw[add_lit];exact hK _ (by rw[add_lit];exact m) (by rw[add_lit];exact e)
theorem ik.app {s s2:Sl}{G Q:Rg}{bs bs2:List Bt}{e:Nat}(h:ik s bs u G)(h2:ik s2 bs2 u Q)(hd:∀b,G b->¬Q b)(hl:bs.length+bs2.length<=1000){K:Sl->Hp->Prop}
 (hK:∀s' u',Ext G u u'->ik s' (bs++bs2) u' (λb=>G b\/Q b\/u.size<=b)->K s' u'):App s 2 32 e [.int .i64 0,.slice none 0 0] s2 u K:=by
 have l1:=h.len;have l2:=h2.len;obtain⟨Y,D,y,F,W,H,A⟩:=h;obtain⟨J,D2,z,m,r,N,w⟩:=h2;by_cases h0:s2.len=0
 ·have M:bs2=[]:=DV O;subst M;refine y.CD h0 (by
   have:s.len*32<=1000*32:=kL (by simp at hl;omega) O;omega) (by simp at hl;omega) λR=>hK _ u (Ext.refl _ _) ?_
  rw[j8];exact⟨Y,D,(dM.loc _ _ _).mono R λb _ d=>⟨.inl d.1,d.2⟩,F,λb d=>.inl (W b d),H,A⟩
 ·have e1:(s.len+s2.len)*32<=1000*32:=kL O O;refine((dM.loc _ _ _).cut y).app (ys:=fK J) rfl (by rw[KF];have:=m.1;omega) z.gp.rd HN O O O λs' u' _ L R=>hK s' u' (L.sub λb d=>d.1.1) ?_;have hz:=L.1;have S:=F.1;refine⟨Y++J,λb=>D b/\b<u.size\/D2 b/\b<u.size,?_,⟨by simp[F.1,m.1],λi p x B g=>?_⟩,λb d=>?_,pS.2 ⟨H,N,λp B q hq a a' V X e3=>?_⟩,λx g=>(zR.1 g).elim (A x) (w x)⟩
  ·rw[U0];refine(dM.loc _ _ _).mono R λb _ d=>?_;rcases d with d|d
   ·exact⟨.inl d.1.1,λg=>g.elim (λg=>d.1.2 g.1) λg=>hd b d.1.1 (r b g.1)⟩
   ·exact⟨.inr (.inr d),λg=>by rcases g with g|g<;>omega⟩
  ·rcases l8 i Y.length with C|C
   ·rw[zd C]at B;rw[zd O]at g;obtain⟨U,P,Z⟩:=F.2 i p x B g;exact⟨U,aH.mono (aH.bU (aH.cut P) L λb _ d g=>g.1.2 d.1) λb _ d=>.inl d,Z⟩
   ·rw[zo C]at B;rw[zo O,←S]at g;obtain⟨U,P,Z⟩:=m.2 _ p x B g;exact⟨U,aH.mono (aH.bU (aH.cut P) L λb _ d g=>hd b g.1.1 (r b d.1)) λb _ d=>.inr d,Z⟩
  ·rcases d with d|d
   ·exact .inl (W b d.1)
   ·exact .inr (.inl (r b d.1))
  ·obtain⟨i,C⟩:=zN B;obtain⟨j,H⟩:=zN hq;have hil:=(cQ.1 C).1;have hjl:=(cQ.1 H).1;have hy:bs[i]?=some (bs[i]' O):=cM _;have E:bs2[j]?=some (bs2[j]'(by have:=m.1;omega)):=cM _;have b1:=(F.2 i p _ C hy).2.1.bZ (by simpa[Wv]using A _ (zE hy)) ⟨a,V,rfl⟩;have b2:=(m.2 j q _ H E).2.1.bZ (by simpa[Wv]using w _ (zE E)) ⟨a',X,rfl⟩;rw[e3]at b1;exact hd _ (W _ b1.1) (r _ b2.1)
theorem HK.wF (K:HK F σ B u P L H){B':Rg}(h1:∀b,B' b->σ.size<=b/\b<u.size/\¬P b):HK F σ (λb=>B b\/B' b) u P L H:=
 ⟨K.h,K.e,λb a=>⟨(K.p b a).1,λg=>g.elim (K.p b a).2.1 λd=>(h1 b d).2.2 a,(K.p b a).2.2⟩,λb a=>a.elim (K.b b) λd=>⟨(h1 b d).1,(h1 b d).2.1⟩,K.o⟩
theorem ZL (hg:H.bQ[t]?=some g)(f:Th->Th):H.dZ t f = {H with bQ:=H.bQ.set t (f g)}:=by
 unfold Hw.dZ;rw[K0 hg]
theorem GP (hg:H.bQ[t]?=some g):H.kz t=g:=by unfold Hw.kz;rw[zL,hg];rfl
theorem Ud (hc:H.tb[k]?=some c):H.cls k=c:=by unfold Hw.cls;rw[zL,hc];rfl
theorem yS (hl:g.ls[k]?=some l):g.li k=l:=by unfold Th.li;rw[zL,hl];rfl
theorem Dx (ha:H.bT[H.own t]?=some A):H.eM t=A:=by unfold Hw.eM;rw[zL,ha];rfl
theorem ku (h:HS L H)(t:Nat):H.own t<H.bT.length:=vK _ (by have:=h.a1;omega)
theorem HH.Ba (h:HH u P L H)(hx:L.ts[t]?=some x)(hg:H.bQ[t]?=some g):g.ls.length=H.tb.length:=by
 obtain⟨G,_,a,_⟩:=h.pB hx hg;exact a.len
theorem FD (ha:H.bT[k]?=some A):H.cB k A=H:=by unfold Hw.cB;rw[Ql ha]
theorem RQ (l:List Nat):ints l=Wv (l.map λ(x:Nat)=>(x:Int)):=by simp[ints,Wv]
theorem Bc (f:bW->Li->List Int×Li)(tb:List bW)(ls:List Li):(Ka f tb ls).length<=tb.length:=by
 unfold Ka;exact zI (List.length_filterMap_le _ _) aA
theorem HH.mA (h:HH u P L H):H.tb.length<=40:=by
 obtain⟨x,g,b,d⟩:=h.th (t:=0) h.s.t1;obtain⟨G,_,a,_⟩:=h.pB b d;exact a.nM
theorem Nv {s:Sl}{b o:Nat}(ha:s.a=some ⟨b,o,none⟩)(hl:0<s.len){K:Addr->Prop}(hK:K ⟨b,o+0,none⟩):Ix s.a s.len 0 1 K:=by
 rw[ha];exact ix (ql _) O (by rw[add_lit];exact hK)
theorem Ts {s:Sl}{ps:List (Nat×Sl)}{G:Rg}(h:cR s 2 (fK ps) σ G)(hl:s.len<=1000000){R:Sl->Hp->Prop}(hR:∀s' σ',s'.len=s.len->bO σ σ'->bR s' 2 (fK ps) σ' (λb=>σ.size<=b)->R s' σ'):Wp.c s σ R:=by
 refine Wp.o ?_;unfold Wp.v;exact G8 h O rfl HN O hl hR
def uJ (H:Hw)(t:Nat):Ph->Prop
 | .take k=>k<H.tb.length/\∀y l,Kb (H.cls k) ((H.kz t).li k)=(some y,l)->iL y
 | .cN k _=>k<H.tb.length/\(Z6 (H.eM t) (k:Int)=0->YL (H.eM t) (k:Int)≠[])
 | .cO _ _=>True
 | .grow _ _=>True
 | .fill=>∃k x xs r,(H.kz t).bP=(k,x::xs)::r/\k<H.tb.length/\iL x/\((H.kz t).li k).os.length+xs.length<=256
 | .eV m=>Z5 (H.eM t) H.sp (m:Int) 1<=1000000
 | .find x=>iL x/\(bV H.live x=none->∀A∈H.bT,ja A)/\∀b,bV H.live x=some b->0<=x
 | .put k _=>k<H.tb.length/\(H.kz t).bP≠[]
 | .back=>∃k xs r,(H.kz t).bP=(k,xs)::r/\(∀x∈xs,iL x/\0<=YJ H.bT x)/\xs.length<=1000000
 | .dJ _ a=>0<=a/\a.toNat<H.bT.length/\∀A∈H.bT,∀r∈A.runs,r.1<=1000000
 | .drain=>True
def Tf (σ:Hp)(F:Rg)(L:dS)(o:uj)(R:Value->Int->Int->Hp->Prop):Prop:=∀σ' ts',Ext F σ σ'->HH σ' (Grow F σ) {L with ts:=ts'} o.1->R (nu o.2.1) o.2.2.1 o.2.2.2 σ'
end Go.Ar