/- Texts joined. -/
import Derived.Test.YtkabjcanamcbeaaGreatDoorI3
set_option linter.unusedVariables false
set_option linter.unusedSimpArgs false
namespace Go.Ar
open Go Go.Vc Go.Proofs
open Go.Bu (YT ZU YR cnt)
open Classical in
theorem _root_.Go.Vc.Sep.stepD {L:Type}{C:L->Hp->Rg->Prop}{σ:Hp}{F:Rg}(hC:∀i,Lcl (C i))(h:Sep C σ F)(i:L):∃G:Rg,(∀b,G b->F b)/\C i σ G/\(∀j,j≠i->∃H:Rg,(∀b,H b->F b)/\(∀b,H b->¬G b)/\C j σ H)/\∀(σ':Hp) (C':L->Hp->Rg->Prop) (G':Rg),
 (∀j,j≠i->C' j=C j)->Ext G σ σ'->(∀b,G' b->G b\/σ.size<=b)->C' i σ' G'->Lcl (C' i)->Sep C' σ' λb=>F b/\b<σ.size/\¬G b\/G' b:=by
 obtain⟨ρ,h⟩:=h;refine⟨_,λb hb=>hb.1,h i,λj hj=>⟨_,λb hb=>hb.1,λb h1 h2=>hj (h1.2.symm.trans h2.2),h j⟩,λσ' C' G' hj e hg hi hL=>⟨λb=>if G' b then i else ρ b,λj=>?_⟩⟩
 by_cases hji:j=i
 ·subst hji;exact hL.mono hi λb _ hb=>⟨.inr hb,zB hb⟩
 ·rw[hj j hji];refine hC j _ _ _ _ (h j) e.1 λb hb hf=>?_;have hnG:¬(F b/\ρ b=i):=λhx=>hji (hf.2.symm.trans hx.2);have hnG':¬G' b:=λhx=>by
   rcases hg b hx with h1|h1
   ·exact hnG h1
   ·omega
  exact⟨⟨.inl ⟨hf.1,hb,hnG⟩,(zA hnG').trans hf.2⟩,e.2 b hb hnG⟩
variable {σ:Hp}{F:Rg}{p hs:Nat}{A:AR}{Y:Lay}{T:Nat->Hp->Rg->Prop}
theorem AHY.step (h:AHY σ F Y A T)(i:Lb):∃G:Rg,(∀b,G b->F b)/\AC A Y T i σ G/\(∀j,j≠i->∃H:Rg,(∀b,H b->F b)/\(∀b,H b->¬G b)/\AC A Y T j σ H)/\∀(σ':Hp) (A':AR) (Y':Lay) (T':Nat->Hp->Rg->Prop) (G' H:Rg),
 LayOk A' Y'->(∀k,Lcl (T' k))->(∀j,j≠i->AC A' Y' T' j=AC A Y T j)->Ext G σ σ'->(∀b,G' b->G b\/σ.size<=b)->AC A' Y' T' i σ' G'->(∀b,(F b/\b<σ.size/\¬G b\/G' b)->H b)->AHY σ' H Y' A' T':=by
 obtain⟨G,hG,hi,hd,hput⟩:=h.sep.stepD (AC.loc h.tl) i;refine⟨G,hG,hi,hd,λσ' A' Y' T' G' H hL hT hj e hg hi' hH=>⟨hL,hT,?_⟩⟩;exact(Sep.loc (AC.loc hT)).mono (hput σ' _ G' hj e hg hi' (AC.loc hT i)) λb _ hb=>hH b hb
theorem Uq {σ:Hp}{F G G':Rg}(hG:∀b,G b->F b)(hg:∀b,G' b->G b\/σ.size<=b):∀b,(F b/\b<σ.size/\¬G b\/G' b)->Grow F σ b:=λb hb=>by
 rcases hb with hb|hb
 ·exact .inl hb.1
 ·exact(hg b hb).imp (hG b) id
theorem WaB {σ:Hp}{F G G':Rg}(hG:∀b,G b->F b)(hg:∀b,G' b->G b):∀b,(F b/\b<σ.size/\¬G b\/G' b)->F b:=λb hb=>by
 rcases hb with hb|hb
 ·exact hb.1
 ·exact hG b (hg b hb)
theorem WiR {σ:Hp}{F G:Rg}(hG:∀b,G b->F b):∀b,(F b/\b<σ.size/\¬G b\/Cut G σ b)->Cut F σ b:=λb hb=>by
 rcases hb with hb|hb
 ·exact⟨hb.1,hb.2.1⟩
 ·exact⟨hG b hb.1,hb.2⟩
theorem Wlu {ow:Nat->Nat}:∀j,j≠Lb.own->AC {A with ow:=ow} Y T j=AC A Y T j:=by
 intro j hj;cases j<;>first|rfl|exact absurd rfl hj
theorem WlF {st:List Nat}:∀j,j≠Lb.trk->AC {A with st:=st} Y T j=AC A Y T j:=by
 intro j hj;cases j<;>first|rfl|exact absurd rfl hj
theorem AC_S {S:Nat->Bool}:∀j,j≠Lb.free->AC {A with S:=S} Y T j=AC A Y T j:=by
 intro j hj;cases j<;>first|rfl|exact absurd rfl hj
theorem Wjv {rs:List (Nat×Nat)}:∀j,j≠Lb.runs->AC {A with runs:=rs} Y T j=AC A Y T j:=by
 intro j hj;cases j<;>first|rfl|exact absurd rfl hj
theorem Wk2 {k:Nat}{ss:List SpA}:∀j,j≠Lb.cen k->AC {A with cen:=A.cen.set k ss} Y T j=AC A Y T j:=by
 intro j hj;cases j<;>first|rfl|skip
 rename_i k';have hne:k≠k':=λe=>hj (by rw[e]);simp only[AC];rw[zf hne]
theorem LayOk.ow {ow:Nat->Nat}(h:LayOk A Y):LayOk {A with ow:=ow} Y:=⟨h.c,h.t,h.cen,h.tra,h.tb1,h.tb2,h.n1,h.n2,h.n3,h.st,h.room,h.ok⟩
theorem LayOk.setS {S:Nat->Bool}(h:LayOk A Y):LayOk {A with S:=S} Y:=⟨h.c,h.t,h.cen,h.tra,h.tb1,h.tb2,h.n1,h.n2,h.n3,h.st,h.room,h.ok⟩
theorem LayOk.setRuns {rs:List (Nat×Nat)}(h:LayOk A Y):LayOk {A with runs:=rs} Y:=⟨h.c,h.t,h.cen,h.tra,h.tb1,h.tb2,h.n1,h.n2,h.n3,h.st,h.room,h.ok⟩
theorem LayOk.setSt {st:List Nat}(h:LayOk A Y)(hl:st.length=A.st.length):LayOk {A with st:=st} Y:=⟨h.c,h.t,h.cen,h.tra,h.tb1,h.tb2,h.n1,h.n2,h.n3,hl.trans h.st,h.room,h.ok⟩
theorem LayOk.setCen {k:Nat}{ss:List SpA}(h:LayOk A Y):LayOk {A with cen:=A.cen.set k ss} Y:=⟨h.c,h.t,by simpa using h.cen,h.tra,h.tb1,h.tb2,h.n1,h.n2,h.n3,h.st,h.room,h.ok⟩
theorem Wbv (st:List Nat)(a m:Int)(v:Nat)(fr:List Nat):(Vj st a m v fr).length=st.length:=by
 unfold Vj;split<;>simp[QH]
theorem Wh9 (st:List Nat)(k:Int):(addT st k).length=st.length:=by
 unfold addT;split<;>simp[QH]
theorem AHY.Clear (h:AHY σ F Y A T)(a m:Nat)(ha:a<=1000000){R:Int->Hp->Prop}(hR:∀σ' t,Ext F σ σ'->AHY σ' (Grow F σ) Y {A with ow:=setO A.ow a m 0} T->R t σ'):Xz.c (some ⟨Y.op,0,none⟩) a m σ R:=by
 obtain⟨G,hG,hi,_,hput⟩:=h.step .own;refine WgM hi a m ha λσ' e hP=>hR σ' _ (e.sub hG) ?_;exact hput σ' _ _ T (Grow G σ) _ h.lay.ow h.tl Wlu e (λb hb=>hb) hP (Uq hG λb hb=>hb)
theorem AHY.Set (h:AHY σ F Y A T)(a m:Nat)(ha:a<=1000000){no:Nat}(h1:1<=no)(h2:no<=1000){R:Int->Hp->Prop}(hR:∀σ' t,Ext F σ σ'->AHY σ' (Grow F σ) Y {A with ow:=setO A.ow a m no} T->R t σ'):XP.c (some ⟨Y.op,0,none⟩) a m no σ R:=by
 obtain⟨G,hG,hi,_,hput⟩:=h.step .own;refine Wi6 hi a m ha h1 h2 λσ' e hP=>hR σ' _ (e.sub hG) ?_;exact hput σ' _ _ T (Grow G σ) _ h.lay.ow h.tl Wlu e (λb hb=>hb) hP (Uq hG λb hb=>hb)
theorem AHY.trk (h:AHY σ F Y A T):∃G:Rg,(∀b,G b->F b)/\∃q,TrH σ Y.tr q A.st/\F q/\∀(σ':Hp) (st:List Nat),st.length=A.st.length->Ext (· = q) σ σ'->TrH σ' Y.tr q st->Ext F σ σ'/\AHY σ' F Y {A with st:=st} T:=by
 obtain⟨G,hG,⟨q,hT,gp,gq⟩,_,hput⟩:=h.step .trk;refine⟨G,hG,q,hT,hG _ gq,λσ' st hl e h'=>⟨e.sub λb hb=>by subst hb;exact hG _ gq,?_⟩⟩;exact hput σ' _ _ T G _ (h.lay.setSt hl) h.tl WlF (e.sub λb hb=>by subst hb;exact gq) (λb hb=>.inl hb) ⟨q,h',gp,gq⟩ (WaB hG λb hb=>hb)
theorem AHY.Unuse (h:AHY σ F Y A T)(a m:Int){R:Int->Hp->Prop}(hR:∀σ' t,Ext F σ σ'->AHY σ' F Y {A with st:=Vj A.st a m 2 [1]} T->R t σ'):Xc.c (some ⟨Y.tr,0,none⟩) a m σ R:=by
 obtain⟨G,hG,q,hT,_,hput⟩:=h.trk;refine Wio hT a m λσ' e h'=>?_;have:=hput σ' _ (Wbv _ _ _ _ _) e h';exact hR σ' _ this.1 this.2
theorem AHY.Use (h:AHY σ F Y A T)(a m:Int){R:Int->Hp->Prop}(hR:∀σ' t,Ext F σ σ'->AHY σ' F Y {A with st:=Vj A.st a m 1 [2,3]} T->R t σ'):Xq.c (some ⟨Y.tr,0,none⟩) a m σ R:=by
 obtain⟨G,hG,q,hT,_,hput⟩:=h.trk;refine Wlh hT a m λσ' e h'=>?_;have:=hput σ' _ (Wbv _ _ _ _ _) e h';exact hR σ' _ this.1 this.2
theorem AHY.AddH (h:AHY σ F Y A T)(k:Int){R:Int->Hp->Prop}(hR:∀σ' t,Ext F σ σ'->AHY σ' F Y {A with st:=addT A.st k} T->R t σ'):XR.c (some ⟨Y.tr,0,none⟩) k σ R:=by
 obtain⟨G,hG,q,hT,_,hput⟩:=h.trk;refine WjP hT k λσ' e h'=>?_;have:=hput σ' _ (Wh9 _ _) e h';exact hR σ' _ this.1 this.2
theorem AHY.free (h:AHY σ F Y A T):∃sb ms,Go.Bu.BH σ Y.fr A.n A.S sb ms/\∀(σ':Hp) (S:Nat->Bool),Ext (· ∈ ms) σ σ'->Go.Bu.BH σ' Y.fr A.n S sb ms->Ext F σ σ'/\AHY σ' F Y {A with S:=S} T:=by
 obtain⟨G,hG,⟨sb,ms,hB,hf⟩,_,hput⟩:=h.step .free;have hm:∀b,b∈ms->G b:=λb hb=>hf b (by unfold Go.Bu.fp;simp[hb]);refine⟨sb,ms,hB,λσ' S e h'=>⟨e.sub λb hb=>hG b (hm b hb),?_⟩⟩;exact hput σ' _ _ T G _ h.lay.setS h.tl AC_S (e.sub hm) (λb hb=>.inl hb) ⟨sb,ms,h',hf⟩ (WaB hG λb hb=>hb)
theorem AHY.Give (h:AHY σ F Y A T)(a m:Int){R:Int->Hp->Prop}(hR:∀σ' t,Ext F σ σ'->AHY σ' F Y {A with S:=ZU A.n A.S a m} T->R t σ'):XN.c (some ⟨Y.fr,0,none⟩) a m σ R:=by
 obtain⟨sb,ms,hB,hput⟩:=h.free;refine Go.Bu.Give_ok hB a m λσ' e h'=>?_;have:=hput σ' _ e h';exact hR σ' _ this.1 this.2
theorem AHY.TakeB (h:AHY σ F Y A T)(a m:Int){R:Int->Int->Hp->Prop}(hR:∀σ',Ext F σ σ'->AHY σ' F Y {A with S:=Go.Bu.takeS A.n A.S a m} T->R ((Go.Bu.takeV A.n A.S a m:Nat):Int) (Go.Bu.takeE A.n A.S a m) σ'):XA.c (some ⟨Y.fr,0,none⟩) a m σ R:=by
 obtain⟨sb,ms,hB,hput⟩:=h.free;refine Go.Bu.Take_ok hB a m λσ' e h'=>?_;have:=hput σ' _ e h';exact hR σ' this.1 this.2
def rV (rs:List (Nat×Nat)):List Value:=rs.flatMap λr=>[.int .i64 (r.1:Int),.int .i64 (r.2:Int)]
theorem WiQ (rs:List (Nat×Nat)):(rV rs).length=rs.length*2:=by
 induction rs with
 | nil=>rfl
 | cons x l ih=>simp only[rV,zBN,zJ,zU,zAH]at *;omega
theorem WkJ {l:List (Nat×Nat)}{i:Nat}{r:Nat×Nat}(h:l[i]?=some r):(rV l)[2*i]?=some (.int .i64 (r.1:Int))/\(rV l)[2*i+1]?=some (.int .i64 (r.2:Int)):=by
 induction l generalizing i with
 | nil=>simp at h
 | cons x l ih=>
  have e:rV (x::l)=[.int .i64 (x.1:Int),.int .i64 (x.2:Int)]++rV l:=by simp[rV]
  rw[e];cases i with
  | zero=>simp at h;subst h;simp
  | succ i=>
   have:=ih (i:=i) (by simpa using h);rw[show 2*(i+1)=2*i+2 by omega];simpa using this
theorem Wke (c:Cls)(l:List Nat):runV c l=rV (l.map λs=>(s,c.pages)):=by
 simp[runV,rV,List.flatMap_map]
theorem WlG {s:Sl}{rs:List (Nat×Nat)}(h:SlR s 2 (rV rs) σ F){i:Nat}{r:Nat×Nat}(hr:rs[i]?=some r){K:Int->Int->Prop}(hK:K (r.1:Int) (r.2:Int)) :
 Ix s.a s.len (i:Int) 2 λa=>LdI .i64 (a.add 0) σ λu=>LdI .i64 (a.add 1) σ λw=>K u w:=by
 have hg:=WkJ hr;have hi:=(gSi.1 hr).1;obtain⟨b,o,ha,hc⟩:=h.cell hg.1;obtain⟨b1,o1,ha1,hc1⟩:=h.cell hg.2;rw[ha]at ha1;cases ha1;have hl:=h.1;rw[WiQ]at hl;rw[ha];refine ix (by omega) (by omega) ?_;rw[add_lit];refine ldI ?_ (ldI ?_ hK)<;>rw[add_lit]
 ·rw[show o+(i:Int).toNat*2+0=o+2*i by omega];exact hc
 ·rw[show o+(i:Int).toNat*2+1=o+(2*i+1) by omega];exact hc1
theorem AHY.mono {G:Rg}(h:AHY σ F Y A T)(hs:∀b,b<σ.size->F b->G b):AHY σ G Y A T:=Lcl.mono AHY.loc h hs
theorem AHY.cut (h:AHY σ F Y A T):AHY σ (Cut F σ) Y A T:=Lcl.cut AHY.loc h
theorem Wes (A:AR)(rs:List (Nat×Nat))(r:Nat×Nat):KX A (rs++[r])=KO (KX A rs) r:=by simp[KX]
theorem We8 (h:AHY σ F Y A T){sl:Sl}{rs:List (Nat×Nat)}{X:Rg}(hs:SlR sl 2 (rV rs) σ X)(hX:∀b,b<σ.size->X b->¬F b)(hl:rs.length<=1000000)(hb:∀r∈rs,r.1<=1000000){R:Hp->Prop}
 (hR:∀σ',Ext F σ σ'->AHY σ' (Grow F σ) Y (KX A rs) T->R σ'):XS.c (some ⟨Y.p,0,none⟩) sl σ R:=by
 refine XS.o ?_;unfold XS.v;have hlen:sl.len=rs.length:=by have:=hs.1;rw[WiQ]at this;omega
 have hs0:SlR sl 2 (rV rs) σ (Cut X σ):=(SlR.loc _ _ _).cut hs;refine Zw (a:=.i .i64) (λ(t:Int) v=>∃i:Nat,t=(i:Int)/\i<=rs.length/\Ext F σ v/\AHY v (Grow F σ) Y (KX A (rs.take i)) T) (λt _=>rs.length-t.toNat) ⟨0,rfl,by omega,Ext.refl _ _,by simpa[KX]using h.mono λb _ hb=>.inl hb⟩ ?_;rintro t v ⟨i,rfl,hi,e,hA⟩;refine ifD (λhlt=>?_) λhge=>?_
 ·have hi':i<rs.length:=by omega
  have hx:rs[i]?=some rs[i]:=gGe hi';have hbr:=hb _ (zj hi');have hsv:=(SlR.loc _ _ _).keep hs0 e λb hb' hx hf=>hX b hb' hx.1 hf;refine WlG hsv hx ?_;have htk:rs.take (i+1)=rs.take i++[rs[i]]:=by rw[zr,hx];rfl
  generalize rs[i]=r at *;refine nw (cs:=[.int .i64 0,.int .i64 0]) λv4 hz4 e4 hb4=>hb4.s1 (by simp) λv5 o5 b5=>b5.s1 (by simp) λv6 o6 b6=>?_;have e46:Ext0 v v6:=Ext.fresh (Ext.fresh e4 o5.ext λi hi=>by omega) o6.ext λi hi=>by omega
  have hA6:=hA.cut.keep0 e46;have nF:¬Cut (Grow F σ) v v.size:=λhf=>by have:=hf.2;omega
  have b6':Blk v6 v.size [.int .i64 (r.1:Int),.int .i64 (r.2:Int)]:=b6;have z6:v.size<v6.size:=b6.lt;refine nilP (hA6.hd.rP rfl (b6'.rI rfl (b6'.rI rfl (hA6.Clear r.1 r.2 hbr λv7 t7 e7 hA7=>?_))));have b7:=e7.blk b6' nF;have hA7':=hA7.mono (G:=λb=>Cut (Grow F σ) v b\/v.size<b) λb _ hb=>by
   rcases hb with hb|hb
   ·exact .inl hb
   ·exact .inr (by omega)
  have nF7:¬(Cut (Grow F σ) v v.size\/v.size<v.size):=λhf=>by
   rcases hf with h|h
   ·exact nF h
   ·omega
  refine nilP (hA7'.hd.rP rfl (b7.rI rfl (b7.rI rfl (hA7'.Unuse _ _ λv8 t8 e8 hA8=>?_))));have b8:=e8.blk b7 nF7;refine nilP (hA8.hd.rP rfl (b8.rI rfl (b8.rI rfl (hA8.Give _ _ λv9 t9 e9 hA9=>?_))));have sub:∀b,(Cut (Grow F σ) v b\/v.size<b)->Grow F σ b:=λb hb=>by
   rcases hb with hb|hb
   ·exact hb.1
   ·exact .inr (by have:=e.1;omega)
  have ee:Ext F σ v9:=((((e.trans (Ext0.to e46)).growT (e7.sub λb hb=>hb.1))).growT (e8.sub sub)).growT (e9.sub sub);refine arN (m:=i+1) (by omega) (by omega) ⟨⟨i+1,rfl,by omega,ee,?_⟩,by omega⟩;rw[htk,Wes];exact hA9.mono λb _ hb=>sub b hb
 ·have:i=rs.length:=by omega
  subst this;rw[zAA]at hA;exact hR v e hA
end Go.Ar
namespace Go.Proofs
open Go.Vc
set_option maxRecDepth 100000
def W6.h:Hn:=.q .o1 (.q (.q .o3 (.c (.q .o1 .l) .l)) (.q .o1 (.q (.q .o5 (.k (.loop [(3,.I)] (.q (.reg (.seq [.it .i64 .p,.op])) (.q (.c .l .l) (.k (.q (.reg (.seq [.it .i64 .p,.op,.op,.op,.op])) (.oq 17)))))))) (.q .o2 .l))))
def W6.v (a:R2)(b:Hp)(c:Int->Hp->Prop):Prop:=W1.c a b λd e=>If (!d) (c 0 e) (NilP a λf=>LdM (f.add 2) e λg=>Rng .i64 .p g e λh i=>XL [(.i .i64)] (λj=>j 0 i) λk (l:Int) m=>Nxt .i64 .p h m (c l m) (λn o p=>Ent .i64 .p h p λq r=>NilP a λs=>LdS (s.add 0) p λt=>Ix t.a t.len q 3 λu=>LdI .i64 (u.add 0) p λv=>NilP r λw=>LdS (w.add 0) p λx=>Ar .i64 (v*((x.len:Nat):Int)) λy=>Ar .i64 (l+y) λz=>k z p))
theorem W6.o {a b c}(d:W6.v a b c):W6.c a b c:=Wa Tryz.func73 (x:=W6.h) (R0 d)
def W1.h:Hn:=.q .o1 (.q (.reg (.seq [.op,.op,.op,.grd true 5 (RI.ops 5),.op])) .l)
def W1.v (a:R2)(b:Hp)(c:Bool->Hp->Prop):Prop:=JnB (λd e=>c d e) λf=>If (!a.isNone) (NilP a λg=>LdM (g.add 2) b λh=>f (!h.isNone) b) (f false b)
theorem W1.o {a b c}(d:W1.v a b c):W1.c a b c:=Wa Tryz.func105 (x:=W1.h) (R0 d)
def Qc.h:Hn:=.q .o2 (.q (.k (.q .o4 (.c (.q .o2 .l) (.q (.reg (.seq [.op,.op,.op,.grd false 2 [.op,.op],.op])) (.c (.q .o2 .l) .l))))) (.q .o8 .l))
def Qc.v (a:Sl)(b:Int)(c:Hp)(d:Option Addr->Int->Hp->Prop):Prop:=Y5.c a c λe f=>If (!e) (d none 2 f) (JnB (λg h=>If g (d none 1 h) (Wc.c a h λi j=>Nw (.map #[] 0) j λk l=>Nw (.cells #[.slice i.a i.len i.cap,.I b,.map (some k.block)] 167 (0,0)) l λm n=>d (some m) 0 n)) λo=>If (b<0) (o true f) (o (decide (b>65536)) f))
theorem Qc.o {a b c d}(e:Qc.v a b c d):Qc.c a b c d:=Wa Tryz.func126 (x:=Qc.h) (R0 e)
def XO.h:Hn:=.q .o2 (.q .o8 (.q (.q .o2 (.c (.q .o3 .l) .l)) (.q (.q .o6 (.c (.q (.q .o9 (.q .o6 (.c .o8 (.o 11)))) (.q .o2 .l)) .l)) (.q .o7 (.q .o8 (.q .o10 (.q .o10 (.q .o3 .l))))))))
def XO.v (a:R2)(b:Int)(c:Hp)(d:Int->Int->Hp->Prop):Prop:=Xa.c a b c λe f g=>If (f != 0) (d 0 f g) (NilP e λh=>LdS (h.add 0) g λi=>If (((i.len:Nat):Int)==0) (NilP a λj=>LdS (j.add 0) g λk=>Ix k.a k.len b 3 λl=>LdI .i64 (l.add 2) g λm=>NilP e λn=>LdI .i64 (n.add 1) g λo=>If (o<m) (NilP e λp=>LdI .i64 (p.add 1) g λq=>Ar .i64 (q+1) λr=>NilP e λs=>St1 (s.add 1) (.I r) g λt=>d 0 4 t) (NilP e λu=>LdI .i64 (u.add 1) g λv=>Ar .i64 (v+m) λw=>NilP e λx=>St1 (x.add 1) (.I (if 128<w then 128 else w)) g λy=>d 0 4 y)) (NilP e λz=>LdS (z.add 0) g λaa=>Ar .i64 (((aa.len:Nat):Int)-1) λab=>NilP e λac=>LdS (ac.add 0) g λad=>Ix ad.a ad.len ab 1 λae=>LdI .i64 ae g λaf=>NilP e λag=>LdS (ag.add 0) g λah=>SlcL ah 1 0 ab (ah.cap:Nat) λai=>NilP e λaj=>St1 (aj.add 0) (.slice ai.a ai.len ai.cap) g λak=>NilP e λal=>LdI .i64 (al.add 2) ak λam=>NilP e λan=>St1 (an.add 2) (.I (if ab<am then ab else am)) ak λao=>d af 0 ao))
theorem XO.o {a b c d}(e:XO.v a b c d):XO.c a b c d:=Wa Tryz.func171 (x:=XO.h) (R0 e)
def XV.h:Hn:=.q .o2 (.q .o8 (.q (.q .o2 (.c (.q .o3 .l) .l)) (.q (.oq 15) .l)))
def XV.v (a:R2)(b:Int)(c:Hp)(d:Int->Int->Hp->Prop):Prop:=Xa.c a b c λe f g=>If (f != 0) (d 0 f g) (NilP e λh=>LdI .i64 (h.add 1) g λi=>NilP a λj=>LdS (j.add 0) g λk=>Ix k.a k.len b 3 λl=>LdI .i64 (l.add 2) g λm=>d (if m<i then m else i) 0 g)
theorem XV.o {a b c d}(e:XV.v a b c d):XV.c a b c d:=Wa Tryz.func173 (x:=XV.h) (R0 e)
def XQ.h:Hn:=.q .o1 (.q .o8 (.q (.q .o2 (.c (.q .o2 .l) .l)) (.q .o3 (.q .o2 (.q .o4 .l)))))
def XQ.v (a:R2)(b:Int)(c:Sl)(d:Hp)(e:Int->Hp->Prop):Prop:=Xa.c a b d λf g h=>If (g != 0) (e g h) (WB.c c h λi j=>WO.c i j λk=>WN.c f i k λl m=>e l m)
theorem XQ.o {a b c d e}(f:XQ.v a b c d e):XQ.c a b c d e:=Wa Tryz.func178 (x:=XQ.h) (R0 f)
def Yn.h:Hn:=.q .o2 (.q .o8 (.q (.q .o2 (.c (.q .o3 .l) .l)) (.q (.q .o5 (.q .o2 (.c (.q .o3 .l) .l))) (.q (.q (.oq 10) (.c (.q .o2 .l) .l)) (.q .o9 (.sjn [] (.q .o6 (.c .o8 .l)) (.q (.o 11) .l)))))))
def Yn.v (a:R2)(b c:Int)(d:Hp)(e:Sl->Int->Hp->Prop):Prop:=Xa.c a b d λf g h=>If (g != 0) (e ⟨none,0,0⟩ g h) (Nw (.cells #[.I c] 3 (0,0)) h λi j=>WN.c f ⟨some i,1,1⟩ j λk l=>If (k != 0) (e ⟨none,0,0⟩ k l) (NilP f λm=>LdS (m.add 0) l λn=>NilP f λo=>LdI .i64 (o.add 1) l λp=>If (((n.len:Nat):Int)<=p) (e ⟨none,0,0⟩ 0 l) (NilP a λq=>LdS (q.add 0) l λr=>Ix r.a r.len b 3 λs=>LdI .i64 (s.add 2) l λt=>Jn [] (λu=>NilP f λv=>LdS (v.add 0) u λw=>WZ.c f (if((w.len:Nat):Int)<t then((w.len:Nat):Int)else t) u λx y=>e x 0 y) λz=>NilP f λaa=>LdI .i64 (aa.add 1) l λab=>If (ab<t) (NilP f λac=>LdI .i64 (ac.add 1) l λad=>Ar .i64 (ad+1) λae=>NilP f λaf=>St1 (af.add 1) (.I ae) l λag=>z ag) (z l))))
theorem Yn.o {a b c d e}(f:Yn.v a b c d e):Yn.c a b c d e:=Wa Tryz.func181 (x:=Yn.h) (R0 f)
def XX.h:Hn:=.q .o1 (.q (.reg (.heldJ false [] [(2,.one .b)] (.take 0 (.all [(1,.take 2 (.split 5 (.take 3 (.take 5 (.take 6 (.take 7 (.all [(4,.all [(8,.take 9 (.take 10 (.take 11 (.done))))]),(8,.all [(4,.take 9 (.take 10 (.take 11 (.done))))])]))))) (.take 3 (.take 4 (.take 5 (.take 6 (.take 7 (.take 8 (.take 9 (.take 10 (.take 11 (.done))))))))))))])))) .l)
def XX.v (a:R2)(b:Hp)(c:Bool->Hp->Prop):Prop:=Jn [.b] (λ(d:Bool) e=>c d e) λf=>W1.c a b λg h=>If g (NilP a λi=>(W6.c a h λj k=>LdI .i64 (i.add 1) k λl=>f (decide (j>l)) k) ∧ (LdI .i64 (i.add 1) h λm=>W6.c a h λn o=>f (decide (n>m)) o)) (f false h)
theorem XX.o {a b c}(d:XX.v a b c):XX.c a b c:=Wa Tryz.func182 (x:=XX.h) (R0 d)
def WV.h:Hn:=.q .o1 (.q .o3 .l)
def WV.v (a:R2)(b:Hp)(c:Sl->Hp->Prop):Prop:=W5.c a ⟨221,#[],#[]⟩ b λd e=>c d e
theorem WV.o {a b c}(d:WV.v a b c):WV.c a b c:=Wa Tryz.func183 (x:=WV.h) (R0 d)
def Xw.h:Hn:=.q .o1 (.q .o3 .l)
def Xw.v (a:R2)(b:Hp)(c:Sl->Hp->Prop):Prop:=W5.c a ⟨223,#[],#[]⟩ b λd e=>c d e
theorem Xw.o {a b c}(d:Xw.v a b c):Xw.c a b c:=Wa Tryz.func188 (x:=Xw.h) (R0 d)
def Xa.h:Hn:=.q .o2 (.q (.q .o3 (.c (.q .o2 .l) .l)) (.q .o4 (.q (.q .o2 (.c (.q .o2 .l) .l)) (.q .o3 .l))))
def Xa.v (a:R2)(b:Int)(c:Hp)(d:Option Addr->Int->Hp->Prop):Prop:=W1.c a c λe f=>If (!e) (d none 5 f) (YV.c a b f λg h=>If g.isNone (d none 1 h) (d g 0 h))
theorem Xa.o {a b c d}(e:Xa.v a b c d):Xa.c a b c d:=Wa Tryz.func211 (x:=Xa.h) (R0 e)
def WN.h:Hn:=.q .o1 (.q (.q .o9 (.c (.q .o1 .l) .l)) (.q (.o 11) (.q .o1 .l)))
def WN.v (a:R2)(b:Sl)(c:Hp)(d:Int->Hp->Prop):Prop:=NilP a λe=>LdS (e.add 0) c λf=>Ar .i64 (((f.len:Nat):Int)+((b.len:Nat):Int)) λg=>If (g>256) (d 6 c) (NilP a λh=>LdS (h.add 0) c λi=>W3.c i c λj k=>App j 1 8 3 [.I 0] b k λl m=>NilP a λn=>St1 (n.add 0) (.slice l.a l.len l.cap) m λo=>d 0 o)
theorem WN.o {a b c d}(e:WN.v a b c d):WN.c a b c d:=Wa Tryz.func218 (x:=WN.h) (R0 e)
def WZ.h:Hn:=.q .o1 (.q .o8 (.q (.o 11) (.q (.reg (.tail 13 (RI.ops 13) [.op])) (.q .o2 .l))))
def WZ.v (a:R2)(b:Int)(c:Hp)(d:Sl->Hp->Prop):Prop:=NilP a λe=>LdS (e.add 0) c λf=>SlcL f 1 0 b (f.cap:Nat) λg=>WB.c g c λh i=>NilP a λj=>LdS (j.add 0) i λk=>SlcL k 1 b (k.len:Nat) (k.cap:Nat) λl=>WB.c l i λm n=>NilP a λo=>St1 (o.add 0) (.slice m.a m.len m.cap) n λp=>NilP a λq=>LdI .i64 (q.add 2) p λr=>NilP a λs=>LdS (s.add 0) p λt=>NilP a λu=>St1 (u.add 2) (.I (if((t.len:Nat):Int)<r then((t.len:Nat):Int)else r)) p λv=>d h v
theorem WZ.o {a b c d}(e:WZ.v a b c d):WZ.c a b c d:=Wa Tryz.func219 (x:=WZ.h) (R0 e)
def W5.h:Hn:=.q .o1 (.q (.q .o3 (.c (.q .o1 .l) .l)) (.q .o1 (.q (.q .o5 (.k (.loop [(5,.one .s)] (.q (.reg (.seq [.it .i64 .p,.op])) (.q (.c .l .l) (.k (.q (.reg (.seq [.it .i64 .p,.op,.op,.op,.op])) (.q (.o 12) (.q .o3 (.c .o7 .l)))))))))) (.q .o2 (.q .o2 .l)))))
def W5.v (a:R2)(b:Fv)(c:Hp)(d:Sl->Hp->Prop):Prop:=W1.c a c λe f=>If (!e) (d ⟨none,0,0⟩ f) (NilP a λg=>LdM (g.add 2) f λh=>Rng .i64 .p h f λi j=>XL [.s] (λk=>k ⟨none,0,0⟩ j) λl (m:Sl) n=>Nxt .i64 .p i n (Zn.c m ⟨262,#[],#[]⟩ n λo=>d m o) (λp q r=>Ent .i64 .p i r λs t=>NilP a λu=>LdS (u.add 0) r λv=>Ix v.a v.len s 3 λw=>LdI .i64 (w.add 2) r λx=>VC Tryz.prog b [.pointer t,.I x] [.one .s] r λy z=>If (((y.len:Nat):Int)>0) (Nw (.cells #[.I s,.slice y.a y.len y.cap] 130 (0,0)) z λaa ab=>App m 2 32 130 [.I 0,.slice none 0 0] ⟨some aa,1,1⟩ ab λac ad=>l ac ad) (l m z)))
theorem W5.o {a b c d}(e:W5.v a b c d):W5.c a b c d:=Wa Tryz.func220 (x:=W5.h) (R0 e)
def Xd.h:Hn:=.q .o1 (.q .o9 (.sjn [] (.q .o6 (.c (.o 12) .l)) (.q .o9 (.q .o2 .l))))
def Xd.v (a:R2)(b:Int)(c:Hp)(d:Sl->Hp->Prop):Prop:=NilP a λe=>LdI .i64 (e.add 2) c λf=>Ar .i64 (f+1) λg=>Nz 2<|Ar .i64 (g.tdiv 2) λh=>WZ.c a h c λi j=>Jn [] (λk=>NilP a λl=>LdS (l.add 0) k λm=>NilP a λn=>St1 (n.add 2) (.I ((m.len:Nat):Int)) k λo=>d i o) λp=>NilP a λq=>LdI .i64 (q.add 1) j λr=>If (r>b) (NilP a λs=>LdI .i64 (s.add 1) j λt=>Ar .i64 (t-b) λu=>NilP a λv=>St1 (v.add 1) (.I (if b>u then b else u)) j λw=>p w) (p j)
theorem Xd.o {a b c d}(e:Xd.v a b c d):Xd.c a b c d:=Wa Tryz.func221 (x:=Xd.h) (R0 e)
def Yb.h:Hn:=.q .o1 (.q .o8 .l)
def Yb.v (a:R2)(b:Int)(c:Hp)(d:Sl->Hp->Prop):Prop:=NilP a λe=>LdS (e.add 0) c λf=>WZ.c a ((f.len:Nat):Int) c λg h=>d g h
theorem Yb.o {a b c d}(e:Yb.v a b c d):Yb.c a b c d:=Wa Tryz.func223 (x:=Yb.h) (R0 e)
def YV.h:Hn:=.q .o1 (.q (.q (.reg (.seq [.op,.op,.op,.op,.grd false 2 [.op,.op],.op,.grd false 7 (RI.ops 7)])) (.c (.q .o1 .l) .l)) (.sjn [] (.q .o7 (.c .o8 .l)) (.q .o7 .l)))
def YV.v (a:R2)(b:Int)(c:Hp)(d:Option Addr->Hp->Prop):Prop:=W1.c a c λe f=>JnB (λg h=>JnB (λi j=>If i (d none j) (Jn [] (λk=>NilP a λl=>LdM (l.add 2) k λm=>Lk .i64 .p m b k λn=>d (n.getD none) k) λo=>NilP a λp=>LdM (p.add 2) j λq=>Lk .i64 .p q b j λr=>If ((r.getD none).isNone) (NilP a λs=>LdM (s.add 2) j λt=>Nw (.cells #[.slice none 0 0,.I 1,.I 0] 170 (0,0)) j λu v=>MSet .i64 .p t b (some u) v λw=>o w) (o j))) λx=>If g (x true h) (NilP a λy=>LdS (y.add 0) h λz=>x (decide (b≥((z.len:Nat):Int))) h)) λaa=>If (!e) (aa true f) (aa (decide (b<0)) f)
theorem YV.o {a b c d}(e:YV.v a b c d):YV.c a b c d:=Wa Tryz.func250 (x:=YV.h) (R0 e)
end Go.Proofs
namespace Go.Ar
open Go Go.Vc Go.Proofs
theorem SlR.sub {σ:Hp}{F:Rg}{s:Sl}{sz:Nat}{xs:List Value}(h:SlR s sz xs σ F){lo hi mx:Nat}(h1:lo<=hi)(h2:hi<=s.len)(h3:hi<=mx) :
 SlR ⟨if mx=lo then s.a else s.a.map (·.add (lo*sz)),hi-lo,mx-lo⟩ sz ((xs.drop (lo*sz)).take ((hi-lo)*sz)) σ F:=by
 have hl:=h.1;have e1:hi*sz<=s.len*sz:=zAG _ h2;have e2:(hi-lo)*sz=hi*sz-lo*sz:=Nat.sub_mul _ _ _;have e3:lo*sz<=hi*sz:=zAG _ h1;refine⟨by rw[zY,zz];simp only;omega,?_⟩;by_cases hm:mx=lo
 ·left;have:hi-lo=0:=by omega
  rw[this,zDZ,List.take_zero]
 ·rcases h.2 with h0|⟨b,o,cs,hb,ha,hq,hc⟩
  ·left;subst h0;simp
  ·refine .inr ⟨b,o+lo*sz,cs,hb,?_,hq,λj hj=>?_⟩
   ·simp only[zA hm,ha,zb,add_lit]
   ·rw[zY,zz]at hj;rw[zBU,hc _ (by omega),zg,zu,zB (by omega)]
inductive LbC where
 | hd|tab|mp
 | li (k:Nat)
 deriving DecidableEq
structure LayC where
 p:Nat
 m:Nat
 tab:Sl
 ps:List (Nat×Nat)
def lkp (ps:List (Nat×Nat))(k:Nat):Option Nat:=(ps.find? λx=>x.1==k).map (·.2)
def ptI (ps:List (Nat×Nat)):List (Int×Option Addr):=ps.map λx=>((x.1:Int),some ⟨x.2,0,none⟩)
def liV (s:Sl)(l:Li):List Value:=[.slice s.a s.len s.cap,.int .i64 (l.lim:Int),.int .i64 (l.low:Int)]
def LiR (b:Nat)(l:Li):Hp->Rg->Prop:=λσ F=>F b/\LiOk l/\∃s:Sl,Blk σ b (liV s l)/\SlR s 1 (Wt l.os) σ (λq=>F q/\q≠b)/\s.len<=s.cap
def LiK (b:Option Nat)(l:Option Li):Hp->Rg->Prop:=λσ F=>match b,l with
 | some b,some l=>LiR b l σ F
 | none,some l=>l=liN
 | _,none=>True
def hdC (Y:LayC)(bud:Nat):List Value:=[.slice Y.tab.a Y.tab.len Y.tab.cap,.int .i64 (bud:Int),.map (some Y.m)]
def CC (tb:List Cls)(bud:Nat)(ls:List Li)(Y:LayC):LbC->Hp->Rg->Prop
 | .hd=>BlkR Y.p (hdC Y bud)
 | .tab=>SlR Y.tab 3 (tabV tb)
 | .mp=>MapR Y.m .i64 .p (ptI Y.ps)
 | .li k=>LiK (lkp Y.ps k) ls[k]?
theorem LiR.loc (b:Nat)(l:Li):Lcl (LiR b l):=by
 rintro σ σ' F G ⟨h1,h2,s,hb,hs,hc⟩ hz hs';have hp:=hs' b hb.lt h1;obtain⟨e,he⟩:=hb;exact⟨hp.1,h2,s,⟨e,hp.2.trans he⟩,SlR.loc _ _ _ _ _ _ _ hs hz λq hq hf=>⟨⟨(hs' q hq hf.1).1,hf.2⟩,(hs' q hq hf.1).2⟩,hc⟩
theorem LiK.loc (b:Option Nat)(l:Option Li):Lcl (LiK b l):=by
 intro σ σ' F G h hz hs;unfold LiK at *;split at h
 ·exact LiR.loc _ _ _ _ _ _ h hz hs
 ·exact h
 ·trivial
theorem CC.loc {tb:List Cls}{bud:Nat}{ls:List Li}{Y:LayC}:∀i,Lcl (CC tb bud ls Y i)
 | .hd=>BlkR.loc _ _
 | .tab=>SlR.loc _ _ _
 | .mp=>MapR.loc _ _ _ _
 | .li k=>LiK.loc _ _
structure CaY (σ:Hp) (F:Rg) (Y:LayC) (tb:List Cls) (bud:Nat) (ls:List Li):Prop where
 tb1:tb.length<=40
 ok:∀c∈tb,c.ok
 len:ls.length=tb.length
 keys:∀x∈Y.ps,x.1<tb.length
 sep:Sep (CC tb bud ls Y) σ F
variable {σ:Hp}{F G:Rg}{Y:LayC}{tb:List Cls}{bud:Nat}{ls:List Li}{b k:Nat}{l:Li}
theorem CaY.loc:Lcl λσ F=>CaY σ F Y tb bud ls:=λσ σ' F G h hz hs=>⟨h.tb1,h.ok,h.len,h.keys,Sep.loc CC.loc _ _ _ _ h.sep hz hs⟩
theorem CaY.keep0 {σ':Hp}(h:CaY σ F Y tb bud ls)(e:Ext0 σ σ'):CaY σ' F Y tb bud ls:=Lcl.keep0 CaY.loc h e
theorem CaY.hd (h:CaY σ F Y tb bud ls):Blk σ Y.p (hdC Y bud):=by
 obtain⟨G,hG,hb⟩:=h.sep.get .hd;exact hb.2
theorem CaY.tabS (h:CaY σ F Y tb bud ls):SlR Y.tab 3 (tabV tb) σ F:=by
 obtain⟨G,hG,hb⟩:=h.sep.get .tab;exact(SlR.loc _ _ _).mono hb λb _ hb=>hG b hb
theorem CaY.tabL (h:CaY σ F Y tb bud ls):Y.tab.len=tb.length:=by
 have:=h.tabS.1;rw[QE]at this;omega
theorem CaY.map (h:CaY σ F Y tb bud ls):MapL σ Y.m .i64 .p (ptI Y.ps):=by
 obtain⟨G,hG,hb⟩:=h.sep.get .mp;exact hb.2
theorem WcW (ps:List (Nat×Nat))(k:Nat):mget (α:=Option Addr) (ptI ps) (k:Int)=(lkp ps k).map λb=>some ⟨b,0,none⟩:=by
 induction ps with
 | nil=>rfl
 | cons x l ih=>
  simp only[mget,ptI,lkp,zI,zDA]at *;have e:(((x.1:Nat):Int)==(k:Int))=(x.1==k):=beqN _ _;rw[e];cases x.1==k
  ·exact ih
  ·rfl
theorem Wdn {ps:List (Nat×Nat)}(h:lkp ps k=none):∀x∈ps,x.1≠k:=by
 unfold lkp at h;simp only[zCM,zBI,zS]at h;exact h
theorem WjJ {ps:List (Nat×Nat)}(h:lkp ps k=none)(b:Nat):mset (α:=Option Addr) (ptI ps) (k:Int) (some ⟨b,0,none⟩)=ptI (ps++[(k,b)]):=by
 unfold mset;rw[zA]
 ·simp[ptI]
 ·simp only[ptI,List.any_map,zl,Function.comp,zS,not_exists,not_and];intro x hx e;exact Wdn h x hx (by omega)
theorem Vw {ps:List (Nat×Nat)}(h:lkp ps k=none)(b j:Nat):lkp (ps++[(k,b)]) j=if j=k then some b else lkp ps j:=by
 have h':=Wdn h;unfold lkp at *;rw[List.find?_append];by_cases hj:j=k
 ·subst hj;have:ps.find? (λx=>x.1==j)=none:=by simpa using h
  rw[this];simp
 ·rw[zA hj];cases hf:ps.find? (λx=>x.1==j)with
  | none=>
   have:(k==j)=false:=by simpa using λe=>hj e.symm
   simp[this]
  | some x=>simp
theorem WiL {ps:List (Nat×Nat)}(hn:((ptI ps).map (·.1)).Nodup)(h:(k,b)∈ps):lkp ps k=some b:=by
 induction ps with
 | nil=>simp at h
 | cons x l ih=>
  simp only[ptI,zI,zm]at hn;unfold lkp;rw[zDA];rcases zX.1 h with rfl|h
  ·simp
  ·have:(x.1==k)=false:=by
    have:x.1≠k:=λe=>hn.1 (zC.2 ⟨(((k:Nat):Int),some ⟨b,0,none⟩),zC.2 ⟨(k,b),h,rfl⟩,by rw[e]⟩);simpa using this
   rw[this];exact ih hn.2 h
theorem Ua (h:CaY σ F Y tb bud ls){R:Bool->Hp->Prop}(hR:R true σ):W1.c (some ⟨Y.p,0,none⟩) σ R:=by
 refine W1.o ?_;unfold W1.v;exact JnB.intro (ifT rfl (nilP (h.hd.rM rfl hR)))
theorem CaY.liS (h:CaY σ F Y tb bud ls)(hb:lkp Y.ps k=some b)(hl:ls[k]?=some l):∃G:Rg,(∀q,G q->F q)/\LiR b l σ G/\¬G Y.m ∧
 ∀(σ':Hp) (l':Li) (G':Rg),Ext G σ σ'->(∀q,G' q->Grow G σ q)->LiR b l' σ' G'->Ext F σ σ'/\CaY σ' (λq=>F q/\q<σ.size/\¬G q\/G' q) Y tb bud (ls.set k l'):=by
 have hlt:=(gSi.1 hl).1;obtain⟨G,hG,hi,hdis,hput⟩:=h.sep.stepD CC.loc (.li k);have hi:LiR b l σ G:=by
  simp only[CC,LiK,hb,hl]at hi;exact hi
 have hm:¬G Y.m:=by
  obtain⟨H,_,hd,hmp⟩:=hdis .mp (by intro e;cases e);exact hd _ hmp.1
 refine⟨G,hG,hi,hm,λσ' l' G' e hg hL=>⟨e.sub hG,h.tb1,h.ok,by rw[zBQ];exact h.len,h.keys,?_⟩⟩;refine hput σ' (CC tb bud (ls.set k l') Y) G' (λj hj=>?_) e hg ?_ (CC.loc _)
 ·cases j<;>try rfl
  rename_i m;have hm:m≠k:=λe=>hj (by rw[e]);simp only[CC,zf (Ne.symm hm)]
 ·simp only[CC,LiK,hb,zK hlt];exact hL
theorem CaY.mono (h:CaY σ F Y tb bud ls)(hs:∀q,q<σ.size->F q->G q):CaY σ G Y tb bud ls:=Lcl.mono CaY.loc h hs
theorem CaY.cut (h:CaY σ F Y tb bud ls):CaY σ (Cut F σ) Y tb bud ls:=Lcl.cut CaY.loc h
theorem CaY.upd {v:Hp}(h:CaY v (Grow F σ) Y tb bud ls)(e0:Ext F σ v)(hb:lkp Y.ps k=some b)(hl:ls[k]?=some l):∃G:Rg,LiR b l v G ∧
 ∀(σ':Hp) (l':Li) (G':Rg),Ext G v σ'->(∀q,G' q->Grow G v q)->LiR b l' σ' G'->Ext F σ σ'/\CaY σ' (Grow F σ) Y tb bud (ls.set k l'):=by
 obtain⟨G,hG,hL,_,hput⟩:=h.liS hb hl;refine⟨G,hL,λσ' l' G' e hg hL'=>?_⟩;obtain⟨e1,h1⟩:=hput σ' l' G' e hg hL';refine⟨e0.growT e1,h1.mono λq _ hq=>?_⟩;have:=e0.1;rcases hq with hq|hq
 ·exact hq.1
 ·rcases hg q hq with h2|h2
  ·exact hG q h2
  ·exact .inr (by omega)
theorem WkZ (h:CaY σ F Y tb bud ls)(hk:k<tb.length){R:Option Addr->Hp->Prop}(hR:∀σ' Y' b,Ext F σ σ'->Y'.p=Y.p->lkp Y'.ps k=some b->CaY σ' (Grow F σ) Y' tb bud ls->R (some ⟨b,0,none⟩) σ') :
 YV.c (some ⟨Y.p,0,none⟩) (k:Int) σ R:=by
 refine YV.o ?_;unfold YV.v;have hlt:k<ls.length:=by rw[h.len];exact hk
 have hl:ls[k]?=some ls[k]:=gGe hlt;generalize ls[k]=l at hl;have htl:=h.tabL;refine Ua h (JnB.intro (ifF rfl ?_));refine JnB.intro (ifDF (by omega) (nilP (h.hd.rS rfl ?_)));refine ifDF (by simp only;omega) ?_;refine Jn.intro (nilP (h.hd.rM rfl ⟨_,h.map,?_⟩));rw[WcW];cases hf:lkp Y.ps k with
 | some b=>
  refine ifF rfl (nilP (h.hd.rM rfl ⟨_,h.map,?_⟩));rw[WcW,hf];exact hR σ Y b (Ext.refl _ _) rfl hf (h.mono λq _ hq=>.inl hq)
 | none=>
  refine ifT rfl (nilP (h.hd.rM rfl (nw (cs:=[.slice none 0 0,.int .i64 1,.int .i64 0]) λv hz e hb1=>?_)));obtain⟨G,H,hGc,hH,hd,hi,hj,hput⟩:=h.cut.sep.step2 CC.loc .mp (.li k) (by intro e;cases e);have hG:∀q,G q->F q:=λq hq=>(hGc q hq).1;have hi:MapR Y.m .i64 .p (ptI Y.ps) σ G:=hi;have hj:l=liN:=by
   simp only[CC,LiK,hf,hl]at hj;exact hj
  have hmlt:=hi.2.lt;have hmv:MapL v Y.m .i64 .p (ptI Y.ps):=e.mapL hi.2 id;refine⟨Y.m,_,rfl,hmv,λv2 ho hm2=>?_⟩;rw[WjJ hf]at hm2;have e2:Ext F σ v2:=(Ext0.to e).only ho (.inl (hG _ hi.1));have eGH:Ext (λq=>G q\/H q) σ v2:=(Ext0.to e).only ho (.inl (.inl hi.1));have hb2:Blk v2 σ.size [.slice none 0 0,.int .i64 1,.int .i64 0]:=Wr ho hb1 (by omega);have hnew:CaY v2 (Grow F σ) {Y with ps:=Y.ps++[(k,σ.size)]} tb bud ls:=by
   refine⟨h.tb1,h.ok,h.len,λx hx=>?_,?_⟩
   ·rcases zM.1 hx with hx|hx
    ·exact h.keys x hx
    ·simp only[zR]at hx;subst hx;exact hk
   refine(Sep.loc CC.loc).mono (hput v2 (CC tb bud ls {Y with ps:=Y.ps++[(k,σ.size)]}) G (· = σ.size) (λj h1 h2=>?_) eGH (λq hq=>.inl (.inl hq)) (λq hq=>.inr (by omega)) (λq h1 h2=>?_) ⟨hi.1,hm2⟩ ?_ CC.loc) λq _ hq=>?_
   ·cases j<;>first|rfl|exact absurd rfl h1|skip
    rename_i m;have hm:m≠k:=λe=>h2 (by rw[e]);simp only[CC,Vw hf,zA hm]
   ·have:=(hGc q h1).2;omega
   ·simp only[CC,Vw hf,zP,hl,hj,LiK];exact⟨rfl,LiOk.nil,⟨none,0,0⟩,hb2,SlR.nil _ _ _ _,zD _⟩
   ·rcases hq with hq|hq|hq
    ·exact .inl hq.1.1
    ·exact .inl (hG q hq)
    ·exact .inr (by omega)
  refine nilP (hnew.hd.rM rfl ⟨_,hnew.map,?_⟩);rw[WcW,Vw hf,zB rfl];exact hR v2 {Y with ps:=Y.ps++[(k,σ.size)]} σ.size e2 rfl (by show lkp (Y.ps++[(k,σ.size)]) k=_;rw[Vw hf,zB rfl]) hnew
theorem UX (h:CaY σ F Y tb bud ls)(hk:k<tb.length){R:Option Addr->Int->Hp->Prop}(hR:∀σ' Y' b,Ext F σ σ'->Y'.p=Y.p->lkp Y'.ps k=some b->CaY σ' (Grow F σ) Y' tb bud ls->R (some ⟨b,0,none⟩) 0 σ') :
 Xa.c (some ⟨Y.p,0,none⟩) (k:Int) σ R:=by
 refine Xa.o ?_;unfold Xa.v;exact Ua h (ifF rfl (WkZ h hk λσ' Y' b e hp hb h'=>ifF rfl (hR σ' Y' b e hp hb h')))
theorem RowR.capO {s:Sl}{sz:Nat}{xs:List Value}(h:RowR s sz xs σ F):s.len<=s.cap:=by
 rcases h.2 with⟨q1,q2⟩|⟨_,_,_,_,_,q,_⟩
 ·omega
 ·exact q
theorem UA (h:LiR b l σ G){m:Nat}(hm:m<=l.os.length){R:Sl->Hp->Prop}
 (hR:∀s z σ',Ext (· = b) σ σ'->σ.size<=z->RowR s 1 (Wt (l.os.take m)) σ' (λq=>σ.size<=q/\q<z)->LiR b (oldL m l).2 σ' (λq=>q=b\/z<=q)->R s σ') :
 WZ.c (some ⟨b,0,none⟩) (m:Int) σ R:=by
 refine WZ.o ?_;unfold WZ.v;obtain⟨hF,hok,s,hb,hs,hc⟩:=h;have hsl:s.len=l.os.length:=by have:=hs.1;simp[Wt]at this;omega
 have hmany:=hok.many;have hlow:=hok.low;have hs1:=SlR.sub hs (lo:=0) (hi:=m) (mx:=s.cap) (by omega) (by omega) (by omega);have e1:((Wt l.os).drop (0*1)).take ((m-0)*1)=Wt (l.os.take m):=by simp[Wt]
 rw[e1]at hs1;refine nilP (hb.rS rfl (slc (lo:=0) (by omega) (by simp only;omega) (by simp only;omega) (V6 hs1 QZ (by simp only;omega) λs1 v1 hl1 x1 hr1=>?_)));have hb1:=x1.blk hb id;have hs':=(SlR.loc _ _ _).keep0 hs x1;have hs2:=SlR.sub hs' (lo:=m) (hi:=s.len) (mx:=s.cap) (by omega) (by omega) (by omega);have e2:((Wt l.os).drop (m*1)).take ((s.len-m)*1)=Wt (l.os.drop m):=by
  rw[zAZ (by simp[Wt];omega)];simp[Wt]
 rw[e2]at hs2;refine nilP (hb1.rS rfl (slc (by simp only;omega) (by simp only;omega) (by simp only;omega) (V6 hs2 QZ (by simp only;omega) λs2 v2 hl2 x2 hr2=>?_)));have hb2:=x2.blk hb1 id;refine nilP (hb2.s1 (by simp[liV]) λv3 o3 hb3=>nilP (hb3.rI rfl (nilP (hb3.rS rfl (nilP (hb3.s1 (by simp[liV]) λv4 o4 hb4=>?_))))));have e34:Ext (· = b) v2 v4:=o3.ext.trans o4.ext;have hbl:=hb.lt;have hx1:=x1.1;have hl2':s2.len=l.os.length-m:=by rw[hl2];simp only;omega
 refine hR s1 v1.size v4 ((Ext0.to (x1.trans x2)).trans e34) hx1 ?_ ⟨.inl rfl,Wa6 hok,s2,?_,?_,RowR.capO hr2⟩
 ·refine(RowR.loc _ _ _).keep ((RowR.loc _ _ _).keep0 ((RowR.loc _ _ _).mono hr1 (G:=λq=>σ.size<=q/\q<v1.size) λq hq hf=>⟨hf,hq⟩) x2) e34 λq _ hq he=>by omega
 ·have:(if((s2.len:Nat):Int)<(l.low:Int)then((s2.len:Nat):Int)else(l.low:Int))=((min l.low (l.os.length-m):Nat):Int):=by rw[hl2'];split<;>omega
  rw[this]at hb4;exact hb4
 ·refine(SlR.loc _ _ _).mono ((SlR.loc _ _ _).keep hr2.slR e34 λq _ hq he=>by omega) λq _ hq=>⟨.inr hq,by omega⟩
theorem WjM (h:LiR b l σ G){sl:Sl}{xs:List Int}{X:Rg}(hs:SlR sl 1 (Wt xs) σ X)(hx:xs≠[])(hfit:l.os.length+xs.length<=256){R:Int->Hp->Prop}
 (hR:∀σ',Ext (· = b) σ σ'->LiR b (addL xs l) σ' (λq=>q=b\/σ.size<=q)->R 0 σ'):WN.c (some ⟨b,0,none⟩) sl σ R:=by
 refine WN.o ?_;unfold WN.v;obtain⟨hF,hok,s,hb,hss,hc⟩:=h;have hsl:s.len=l.os.length:=by have:=hss.1;simp[Wt]at this;omega
 have hxl:sl.len=xs.length:=by have:=hs.1;simp[Wt]at this;omega
 have hpos:=zCA.2 hx;have ea:addL xs l = {l with os:=l.os++xs}:=by unfold addL;rw[zA (by omega)]
 refine nilP (hb.rS rfl (arN (m:=l.os.length+xs.length) (by simp only;omega) (by omega) (ifDF (by omega) (nilP (hb.rS rfl ?_)))));refine W3.o ?_;unfold W3.v;refine slc (lo:=0) (by simp only;omega) (by simp only;omega) (by simp only;omega) ?_;have hbl:=hb.lt;refine⟨Wt l.os,Wt xs,by simp[Wt];omega,by simp[Wt];omega,?_,hs.rd,QZ,?_,by simp only;omega,λhin=>by simp only at hin;omega,λhout c hcc=>?_⟩
 ·by_cases h0:s.len=0
  ·have:l.os=[]:=List.length_eq_zero_iff.1 (by omega);rw[this];simp only[h0,zP];cases s.a<;>simp[Rd,Wt]
  ·simp only[zA h0,zDZ];have:=hss.rd;cases ha:s.a with
   | none=>rw[ha]at this;simpa[Rd]using this
   | some a=>rw[ha]at this;simpa[Rd,Addr.add_zero']using this
 ·simp only;have:(s.len-0+sl.len)*8<=256*8:=zo (by omega) (by omega);omega
 ·refine nw λv hz e hb1=>nilP ((e.blk hb id).s1 (by simp[liV]) λv2 o2 hb2=>?_);have hc':l.os.length+xs.length<=c:=by simp only at hcc;omega
  refine hR v2 ((Ext0.to e).trans o2.ext) ?_;rw[ea];have:=Wa5 (xs:=xs) hok;rw[ea]at this;refine⟨.inl rfl,this,⟨some ⟨σ.size,0,none⟩,s.len-0+sl.len,c⟩,hb2,⟨by simp[Wt];omega,.inr ⟨σ.size,0,_,⟨.inr (zD _),by omega⟩,rfl,(Wr o2 hb1 (by omega)).q,λj hj=>?_⟩⟩,by simp only;omega⟩;simp only[Wt,zh,zJ]at hj;rw[zG,zAC,←zAC,zd (by simp[Wt];omega)];simp[Wt]
theorem Wg2 (h:LiR b l σ G){sl:Sl}{xs:List Int}{X:Rg}(hs:SlR sl 1 (Wt xs) σ X)(hfit:¬l.os.length+xs.length<=256)(hxs:xs.length<=1000000){R:Int->Hp->Prop}
 (hR:R 6 σ):WN.c (some ⟨b,0,none⟩) sl σ R:=by
 refine WN.o ?_;unfold WN.v;obtain⟨hF,hok,s,hb,hss,hc⟩:=h;have hsl:s.len=l.os.length:=by have:=hss.1;simp[Wt]at this;omega
 have hxl:sl.len=xs.length:=by have:=hs.1;simp[Wt]at this;omega
 have:=hok.many;exact nilP (hb.rS rfl (arN (m:=l.os.length+xs.length) (by simp only;omega) (by omega) (ifDT (by omega) hR)))
end Go.Ar
namespace Go.Ar
open Go Go.Vc Go.Proofs
variable {σ:Hp}{F G:Rg}{Y:LayC}{tb:List Cls}{bud:Nat}{ls:List Li}{b k:Nat}{l:Li}{c:Cls}
theorem CaY.cls (h:CaY σ F Y tb bud ls)(hc:tb[k]?=some c):c.ok/\k<tb.length:=⟨h.ok c (zE hc),(gSi.1 hc).1⟩
theorem LiR.st {v:Hp}(h:LiR b l σ G){s:Sl}{l':Li}(ho:Ext (· = b) σ v)(hb:Blk v b (liV s l'))(hs:SlR s 1 (Wt l'.os) σ (λq=>G q/\q≠b))(hc:s.len<=s.cap)(ok:LiOk l'):LiR b l' v G:=
 ⟨h.1,ok,s,hb,(SlR.loc _ _ _).keep hs ho λq _ hq he=>hq.2 he,hc⟩
theorem Take_ok (h:CaY σ F Y tb bud ls)(hc:tb[k]?=some c)(hl:ls[k]?=some l){R:Int->Int->Hp->Prop}
 (hR:∀σ' Y',Ext F σ σ'->Y'.p=Y.p->CaY σ' (Grow F σ) Y' tb bud (ls.set k (Qk c l).2)->R ((Qk c l).1.getD 0) (if(Qk c l).1.isSome then 0 else 4) σ'):XO.c (some ⟨Y.p,0,none⟩) (k:Int) σ R:=by
 obtain⟨hcok,hk⟩:=h.cls hc;refine XO.o ?_;unfold XO.v;refine UX h hk λv Y' b e hp hb h'=>ifF rfl ?_;obtain⟨G,hL,hput⟩:=h'.upd e hb hl;have hL':=hL;obtain⟨hGb,hok,s,hbk,hs,hcap⟩:=hL;have hhd:=h'.hd;rw[hp]at hhd;have hsl:s.len=l.os.length:=by have:=hs.1;simp[Wt]at this;omega
 have o1:=hok.low;have o2:=hok.many;have o3:=hok.lim;have o4:=hok.lim1;have hok':=Wc1 hcok hok;have fin:∀v' G',Ext G v v'->(∀q,G' q->Grow G v q)->LiR b (Qk c l).2 v' G'->R ((Qk c l).1.getD 0) (if(Qk c l).1.isSome then 0 else 4) v':=λv' G' e' hg hL2=>by
  obtain⟨e2,h2⟩:=hput v' _ G' e' hg hL2;exact hR v' Y' e2 hp h2
 unfold Cls.ok at hcok;have hex:∀{v':Hp},Ext (· = b) v v'->Ext G v v':=λe'=>e'.sub λq hq=>by rw[hq];exact hGb
 refine nilP (hbk.rS rfl ?_);by_cases h0:l.os=[]
 ·have e1:(Qk c l).1=none:=by unfold Qk;rw[h0];rfl
  have e2:(Qk c l).2=if l.lim<c.batch then{l with lim:=l.lim+1}else{l with lim:=min (l.lim+c.batch) 128}:=by unfold Qk;rw[h0];rfl
  rw[e1,e2]at fin;rw[e2]at hok';refine ifT (by simp[hsl,h0]) (nilP (hhd.rS rfl (HC h'.tabS hc (d:=2) (by omega) ?_)));simp only[zA (show ¬(2=0) by omega),zA (show ¬(2=1) by omega)];refine nilP (hbk.rI rfl (ifD (λc1=>?_) λc1=>?_))
  ·have c1':l.lim<c.batch:=by omega
   rw[zB c1']at fin hok';refine nilP (hbk.rI rfl (arN (m:=l.lim+1) (by omega) (by omega) (nilP (hbk.s1 (by simp[liV]) λv' o' hb'=>?_))));exact fin v' G (hex o'.ext) (λq hq=>.inl hq) (hL'.st o'.ext hb' hs hcap hok')
  ·have c1':¬l.lim<c.batch:=by omega
   rw[zA c1']at fin hok';refine nilP (hbk.rI rfl (arN (m:=l.lim+c.batch) (by omega) (by omega) (nilP (hbk.s1 (by simp[liV]) λv' o' hb'=>?_))));refine fin v' G (hex o'.ext) (λq hq=>.inl hq) (hL'.st o'.ext ?_ hs hcap hok');have:(if(128:Int)<((l.lim+c.batch:Nat):Int)then(128:Int)else((l.lim+c.batch:Nat):Int))=((min (l.lim+c.batch) 128:Nat):Int):=by split<;>omega
   rw[this]at hb';exact hb'
 ·have hpos:=zCA.2 h0;obtain⟨x,hx⟩:∃x,l.os[l.os.length-1]?=some x:=⟨_,gGe (by omega)⟩;have hgl:l.os.getLast?=some x:=by rw[List.getLast?_eq_getElem?];exact hx
  have e1:(Qk c l).1=some x:=by unfold Qk;rw[hgl]
  have e2:(Qk c l).2 = {l with os:=l.os.dropLast,low:=min l.low (l.os.length-1)}:=by unfold Qk;rw[hgl]
  rw[e1,e2]at fin;rw[e2]at hok';refine ifF (by simp only[zAR];omega) ?_;refine nilP (hbk.rS rfl (arN (m:=l.os.length-1) (by simp only;omega) (by omega) (nilP (hbk.rS rfl (hs.ixI hx (nilP (hbk.rS rfl ?_)))))));have hsub:=SlR.sub hs (lo:=0) (hi:=l.os.length-1) (mx:=s.cap) (by omega) (by omega) (by omega);have ed:((Wt l.os).drop (0*1)).take ((l.os.length-1-0)*1)=Wt l.os.dropLast:=by simp[Wt,zFE]
  rw[ed]at hsub;refine slc (lo:=0) (by omega) (by simp only;omega) (by simp only;omega) (nilP (hbk.s1 (by simp[liV]) λv1 o1' hb1=>nilP (hb1.rI rfl (nilP (hb1.s1 (by simp[liV]) λv2 o2' hb2=>?_)))));have e12:=o1'.ext.trans o2'.ext;refine fin v2 G (hex e12) (λq hq=>.inl hq) (hL'.st e12 ?_ hsub (by simp only;omega) hok');have:(if((l.os.length-1:Nat):Int)<(l.low:Int)then((l.os.length-1:Nat):Int)else(l.low:Int))=((min l.low (l.os.length-1):Nat):Int):=by split<;>omega
  rw[this]at hb2;exact hb2
theorem Wi0 (h:CaY σ F Y tb bud ls)(hc:tb[k]?=some c)(hl:ls[k]?=some l){R:Int->Int->Hp->Prop}
 (hR:∀σ' Y',Ext F σ σ'->Y'.p=Y.p->CaY σ' (Grow F σ) Y' tb bud ls->R ((Hy c l:Nat):Int) 0 σ'):XV.c (some ⟨Y.p,0,none⟩) (k:Int) σ R:=by
 obtain⟨hcok,hk⟩:=h.cls hc;refine XV.o ?_;unfold XV.v;refine UX h hk λv Y' b e hp hb h'=>ifF rfl ?_;obtain⟨G,hL,hput⟩:=h'.upd e hb hl;obtain⟨hGb,hok,s,hbk,hs,hcap⟩:=hL;have hhd:=h'.hd;rw[hp]at hhd;refine nilP (hbk.rI rfl (nilP (hhd.rS rfl (HC h'.tabS hc (d:=2) (by omega) ?_))));simp only[zA (show ¬(2=0) by omega),zA (show ¬(2=1) by omega)];have:(if(c.batch:Int)<(l.lim:Int)then(c.batch:Int)else(l.lim:Int))=((Hy c l:Nat):Int):=by unfold Hy;split<;>omega
 rw[this];exact hR v Y' e hp h'
theorem Wjs (l:List Int)(i:Nat)(h:i<l.length):l.reverse[i]?=l[l.length-1-i]? := by
 rw[List.getElem?_reverse h]
theorem WdU {s:Sl}{xs:List Int}(h:RowR s 1 (Wt xs) σ F)(hlen:xs.length<=1000000){R:Hp->Prop}(hR:∀σ',Ext F σ σ'->RowR s 1 (Wt xs.reverse) σ' F->R σ'):WO.c s σ R:=by
 refine WO.o ?_;unfold WO.v;have hsl:s.len=xs.length:=by have:=h.1;simp[Wt]at this;omega
 let mid (i:Nat):List Int:=(List.range xs.length).map λj=>if j<i\/xs.length-i<=j then xs.getD (xs.length-1-j) 0 else xs.getD j 0
 have mlen:∀i,(mid i).length=xs.length:=λi=>by simp[mid]
 have mget:∀i j,j<xs.length->(mid i)[j]?=some (if j<i\/xs.length-i<=j then xs.getD (xs.length-1-j) 0 else xs.getD j 0):=λi j hj=>by simp[mid,hj]
 have m0:mid 0=xs:=by
  apply zn;intro j;by_cases hj:j<xs.length
  ·rw[mget 0 j hj,zA (by omega)];simp[zO,gGe hj]
  ·rw[zV (by rw[mlen];omega),zV (by omega)]
 have mend:∀i,xs.length<=2*i+1->i<=xs.length->mid i=xs.reverse:=by
  intro i h1 h2;apply zn;intro j;by_cases hj:j<xs.length
  ·rw[mget i j hj,Wjs xs j hj,zO,zO,gGe (show xs.length-1-j<xs.length by omega),gGe hj];split
   ·rfl
   ·have:xs.length-1-j=j:=by omega
    simp only[this];rfl
  ·rw[zV (by rw[mlen];omega),zV (by simp;omega)]
 have step:∀i,2*i+1<xs.length->((mid i).set i (xs.getD (xs.length-1-i) 0)).set (xs.length-1-i) (xs.getD i 0)=mid (i+1):=by
  intro i hi;apply zn;intro j;by_cases hj:j<xs.length
  ·rw[mget (i+1) j hj,zCH,zCH];simp only[zBQ,mlen];by_cases e1:xs.length-1-i=j
   ·subst e1;rw[zB rfl,zB (by omega),zB (by omega)]
    congr 2;omega
   ·rw[zA e1];by_cases e2:i=j
    ·subst e2;rw[zB rfl,zB (by omega),zB (by omega)]
    ·rw[zA e2,mget i j hj];by_cases e3:j<i\/xs.length-i<=j
     ·rw[zB e3,zB (by omega)]
     ·rw[zA e3,zA (by omega)]
  ·rw[zV (by simp[mlen];omega),zV (by rw[mlen];omega)]
 refine arW ?_;rw[Vu (by omega) (by omega)];refine Ks (a:=.i .i64) (bb:=.i .i64) (λ(i j:Int) v=>∃n:Nat,i=(n:Int)/\j=(xs.length:Int)-1-n/\n<=xs.length/\Ext F σ v/\RowR s 1 (Wt (mid n)) v F) (λi _ _=>xs.length-i.toNat) ⟨0,rfl,by omega,by omega,Ext.refl _ _,by rw[m0];exact h⟩ ?_;rintro i j v ⟨n,rfl,rfl,hn,ev,hv⟩;refine ifD (λhlt=>?_) λhge=>?_
 ·have hlt':2*n+1<xs.length:=by omega
  have hja:(xs.length:Int)-1-n=((xs.length-1-n:Nat):Int):=by omega
  rw[hja];have g1:=mget n (xs.length-1-n) (by omega);have g2:=mget n n (by omega);rw[zA (by omega)]at g1 g2;rw[zO]at g1 g2;obtain⟨b,hsa⟩:∃b,s.a=some ⟨b,0,none⟩:=by
   rcases hv.2 with⟨q1,q2⟩|⟨b,cs,_,ha,_⟩
   ·omega
   ·exact⟨b,ha⟩
  have hcell:∀u,RowR s 1 (Wt (mid n)) u F->∀(j:Nat) (x:Int),(mid n)[j]?=some x->cell u (Addr.add ⟨b,0,none⟩ ((j:Int).toNat*1))=some (.int .i64 x):=λu hu j x hx=>by
   obtain⟨b',o,ha,hc⟩:=hu.slR.cell (j:=j) (v:=.int .i64 x) (by simp[Wt,hx]);rw[hsa]at ha;cases ha;rw[add_lit,show 0+(j:Int).toNat*1=0+j by omega];exact hc
  rw[hsa];refine⟨λu=>RowR s 1 (Wt (mid n)) u F,hv,?_⟩;refine ix (by omega) (by omega) ⟨_,λu hu=>hcell u hu _ _ g1,?_⟩;refine ix (by omega) (by omega) ⟨_,λu hu=>hcell u hu _ _ g2,?_⟩;refine ix (by omega) (by omega) ?_;refine hv.st (j:=n) (by simp[Wt,mlen];omega) (λb' hb'=>by rw[hsa]at hb';cases hb';rw[add_lit];simp) λv1 e1 h1=>?_;refine ix (by omega) (by omega) ?_;refine h1.st (j:=xs.length-1-n) (by simp[Wt,mlen];omega) (λb' hb'=>by rw[hsa]at hb';cases hb';rw[add_lit];simp) λv2 e2 h2=>?_;refine arN (m:=n+1) (by omega) (by omega) (arN (m:=xs.length-1-n-1) (by omega) (by omega) ⟨⟨n+1,rfl,by omega,by omega,(ev.trans e1).trans e2,?_⟩,by omega⟩);rw[←step n hlt',zO,zO];have em:∀(l:List Int) (i:Nat) (x:Int),Wt (l.set i x)=(Wt l).set i (.int .i64 x):=λl i x=>by simp[Wt,zDQ]
  rw[em,em];exact h2
 ·rw[mend n (by omega) (by omega)]at hv;exact hR v ev hv
theorem Whz (h:LiR b l σ G){sl:Sl}(hz:sl.len=0){R:Int->Hp->Prop}(hR:∀σ',Ext (· = b) σ σ'->LiR b l σ' G->R 0 σ'):WN.c (some ⟨b,0,none⟩) sl σ R:=by
 refine WN.o ?_;unfold WN.v;have hL:=h;obtain⟨hF,hok,s,hb,hss,hc⟩:=h;have hsl:s.len=l.os.length:=by have:=hss.1;simp[Wt]at this;omega
 have hmany:=hok.many;refine nilP (hb.rS rfl (arN (m:=l.os.length) (by simp only;omega) (by omega) (ifDF (by omega) (nilP (hb.rS rfl ?_)))));refine W3.o ?_;unfold W3.v;refine slc (lo:=0) (by simp only;omega) (by simp only;omega) (by simp only;omega) ?_;have hsub:=SlR.sub hss (lo:=0) (hi:=s.len) (mx:=s.len) (by omega) (by omega) (by omega);have ed:((Wt l.os).drop (0*1)).take ((s.len-0)*1)=Wt l.os:=by rw[hsl,zAZ (by simp[Wt])];simp
 rw[ed]at hsub;have key:∀(s':Sl),SlR s' 1 (Wt l.os) σ (λq=>G q/\q≠b)->s'.len<=s'.cap->NilP (some ⟨b,0,none⟩) λa22=>St1 (a22.add 0) (.slice s'.a s'.len s'.cap) σ λv2=>R 0 v2:=λs' hs' hc'=>by
  refine nilP (hb.s1 (by simp[liV]) λv2 o2 hb2=>hR v2 o2.ext ?_);exact hL.st (l':=l) (s:=s') o2.ext hb2 hs' hc' hok
 refine⟨Wt l.os,[],by simp[Wt];omega,by simp[hz],hsub.rd,by cases sl.a<;>simp[Rd],by simp,?_,by simp only;omega,λhin=>?_,λhout=>absurd (by simp only[hz];omega) hout⟩
 ·simp only[hz];have:(s.len-0+0)*8<=256*8:=zo (by omega) (by omega);omega
 ·simp only[hz,zt];cases ha:(if s.len=0 then s.a else s.a.map (·.add (0*1)))
  ·rw[ha]at hsub;exact key ⟨none,s.len-0,s.len-0⟩ hsub (zD _)
  ·rw[ha]at hsub;exact key ⟨some _,s.len-0,s.len-0⟩ hsub (zD _)
theorem Wc7 (h:LiR b l σ G){sl:Sl}{xs:List Int}{X:Rg}(hs:SlR sl 1 (Wt xs) σ X)(hfit:l.os.length+xs.length<=256){R:Int->Hp->Prop}
 (hR:∀σ',Ext (· = b) σ σ'->LiR b (addL xs l) σ' (Grow G σ)->R 0 σ'):WN.c (some ⟨b,0,none⟩) sl σ R:=by
 by_cases hx:xs=[]
 ·subst hx;have ea:addL [] l=l:=by unfold addL;rw[zA (by simp only[zAH]at hfit ⊢;omega)];simp
  refine Whz h (by have:=hs.1;simp[Wt]at this;omega) λσ' e hL=>hR σ' e ?_;rw[ea];exact(LiR.loc _ _).mono hL λq _ hq=>.inl hq
 ·exact WjM h hs hx hfit λσ' e hL=>hR σ' e ((LiR.loc _ _).mono hL λq _ hq=>hq.imp (λe=>by rw[e];exact h.1) id)
theorem Wi9 (h:CaY σ F Y tb bud ls)(hc:tb[k]?=some c)(hl:ls[k]?=some l){sl:Sl}{xs:List Int}{X:Rg}(hs:SlR sl 1 (Wt xs) σ X)(hX:∀q,X q->¬F q)(hfit:l.os.length+xs.length<=256){R:Int->Hp->Prop}
 (hR:∀σ' Y',Ext F σ σ'->Y'.p=Y.p->CaY σ' (Grow F σ) Y' tb bud (ls.set k (addL xs.reverse l))->R 0 σ'):XQ.c (some ⟨Y.p,0,none⟩) (k:Int) sl σ R:=by
 obtain⟨hcok,hk⟩:=h.cls hc;have hsl:sl.len=xs.length:=by have:=hs.1;simp[Wt]at this;omega
 refine XQ.o ?_;unfold XQ.v;refine UX h hk λv Y' b e hp hb h'=>ifF rfl ?_;have hs1:=(SlR.loc _ _ _).keep hs e λq _ hq=>hX q hq;refine V6 hs1 QZ (by omega) λs1 v1 hl1 e1 hr1=>?_;refine WdU hr1 (by omega) λv2 e2 hr2=>?_;have e02:Ext0 v v2:=Ext.fresh e1 e2 λq hq=>hq;obtain⟨G,hL,hput⟩:=(h'.keep0 e02).upd (e.trans (Ext0.to e02)) hb hl;refine Wc7 hL hr2.slR (by simp;omega) λv3 e3 hL3=>?_;obtain⟨e4,h4⟩:=hput v3 _ _ (e3.sub λq hq=>hq▸hL.1) (λq hq=>hq) hL3;exact hR v3 Y' e4 hp h4
theorem ZC {α:Type}{ls:List α}{k:Nat}{l:α}(h:ls[k]?=some l):ls.set k l=ls:=by
 apply zn;intro j;by_cases hj:j=k
 ·subst hj;rw[zK (gSi.1 h).1,h]
 ·rw[zf (Ne.symm hj)]
theorem Wle (h:CaY σ F Y tb bud ls)(hc:tb[k]?=some c)(hl:ls[k]?=some l)(x:Int){R:Sl->Int->Hp->Prop}
 (hR:∀σ' Y' s e (Q:Rg),Ext F σ σ'->Y'.p=Y.p->(l.os.length+1<=256->e=0)->(∀q,Q q->σ.size<=q)->RowR s 1 (Wt (putL c x l).1) σ' Q->CaY σ' (λq=>Grow F σ q/\¬Q q) Y' tb bud (ls.set k (putL c x l).2)->R s e σ'):Yn.c (some ⟨Y.p,0,none⟩) (k:Int) x σ R:=by
 obtain⟨hcok,hk⟩:=h.cls hc;refine Yn.o ?_;unfold Yn.v;refine UX h hk λv Y' b e hp hb h'=>ifF rfl ?_;have hσv:=e.1;obtain⟨G,hG,hL,_,hput⟩:=h'.liS hb hl;have hblt:b<v.size:=by obtain⟨_,_,s,hbk,_⟩:=hL;exact hbk.lt
 have hbG:=hL.1;have hok:=hL.2.1;have hmany:=hok.many;have hput':∀(σ':Hp) (l':Li) (G':Rg),Ext G v σ'->(∀q,G' q->Grow G v q)->LiR b l' σ' G'->Ext F σ σ'/\CaY σ' (λq=>Grow F σ q/\q<v.size/\¬G q\/G' q) Y' tb bud (ls.set k l'):=λσ' l' G' e' hg hL'=>by
  obtain⟨e1,h1⟩:=hput σ' l' G' e' hg hL';exact⟨e.growT e1,h1⟩
 have hin:∀{G':Rg} {q:Nat},(∀q,G' q->Grow G v q)->(Grow F σ q/\q<v.size/\¬G q\/G' q)->Grow F σ q:=λhg hq=>by
  rcases hq with hq|hq
  ·exact hq.1
  ·rcases hg _ hq with h2|h2
   ·exact hG _ h2
   ·exact .inr (by omega)
 refine nw (cs:=[.int .i64 x]) λv1 hz1 e1 hb1=>?_;have hL1:=(LiR.loc _ _).keep0 hL e1;have hs1:SlR ⟨some ⟨v.size,0,none⟩,1,1⟩ 1 (Wt [x]) v1 (· = v.size):=hb1.slR (o:=0) rfl (by simp[Wt]) (λj hj=>by
  simp only[Wt,zI,zBX,zU,zAH]at hj ⊢;rw[zG])
 by_cases hfit:l.os.length+1<=256
 ·refine Wc7 hL1 hs1 (by simpa using hfit) λv2 e2 hL2=>ifF rfl ?_;have e02:Ext G v v2:=(Ext0.to e1).trans (e2.sub λq hq=>hq▸hbG);have hg2:∀q,Grow G v1 q->Grow G v q:=λq hq=>hq.imp id λhx=>by omega
  obtain⟨eF2,h2⟩:=hput' v2 _ _ e02 hg2 hL2;have hal:(addL [x] l).os=l.os++[x]/\(addL [x] l).lim=l.lim/\(addL [x] l).low=l.low:=by unfold addL;rw[zA (by simp only[zU,zAH];omega)];exact⟨rfl,rfl,rfl⟩
  have hL2':=hL2;obtain⟨_,ok2,s2,hbk2,hs2,hcap2⟩:=hL2;have hs2l:s2.len=l.os.length+1:=by have:=hs2.1;simp[Wt,hal.1]at this;omega
  refine nilP (hbk2.rS rfl (nilP (hbk2.rI rfl ?_)));rw[hal.2.1];refine ifD (λc1=>?_) λc1=>?_
  ·have c1':l.os.length+1<=l.lim:=by simp only at c1;omega
   have ep:putL c x l=([],addL [x] l):=by unfold putL;rw[zA (by omega),zB c1']
   refine hR v2 Y' _ 0 (λ_=>False) eF2 hp (λ_=>rfl) (λq hq=>hq.elim) (by rw[ep];exact RowR.nil _ _ _ _) ?_;rw[ep];exact h2.mono λq _ hq=>⟨hin hg2 hq,id⟩
  ·have c1':¬l.os.length+1<=l.lim:=by simp only at c1;omega
   have ep:putL c x l=oldL (min c.batch (l.os.length+1)) (upL c (addL [x] l)):=by unfold putL;rw[zA (by omega),zA c1']
   have hhd:=h2.hd;rw[hp]at hhd;refine nilP (hhd.rS rfl (HC h2.tabS hc (d:=2) (by omega) ?_));simp only[zA (show ¬(2=0) by omega),zA (show ¬(2=1) by omega)];refine Jn.intro ?_;have rest:∀v3,Ext (· = b) v2 v3->LiR b (upL c (addL [x] l)) v3 (Grow G v1)->NilP (some ⟨b,0,none⟩) λa62=>LdS (a62.add 0) v3 λt64=>WZ.c (some ⟨b,0,none⟩) (if((t64.len:Nat):Int)<(c.batch:Int)then((t64.len:Nat):Int)else(c.batch:Int)) v3 λt67 v4=>R t67 0 v4:=by
    intro v3 e3 hL3;have hL3':=hL3;obtain⟨_,ok3,s3,hbk3,hs3,hcap3⟩:=hL3;have hup:(upL c (addL [x] l)).os=l.os++[x]:=by unfold upL;split<;>exact hal.1
    have hs3l:s3.len=l.os.length+1:=by have:=hs3.1;simp[Wt,hup]at this;omega
    refine nilP (hbk3.rS rfl ?_);have em:(if((s3.len:Nat):Int)<(c.batch:Int)then((s3.len:Nat):Int)else(c.batch:Int))=((min c.batch (l.os.length+1):Nat):Int):=by rw[hs3l];split<;>omega
    rw[em];refine UA hL3' (by rw[hup];simp;omega) λs z v4 e4 hz hr hL4=>?_;have e24:Ext (· = b) v2 v4:=e3.trans e4;have e04:Ext G v v4:=e02.trans (e24.sub λq hq=>hq▸hbG);have hs23:=e3.1;have hs02:=e02.1;obtain⟨eF4,h4⟩:=hput' v4 _ (λq=>q=b\/z<=q) e04 (λq hq=>hq.imp (λ(hx:q=b)=>by rw[hx];exact hbG) λ(hx:z<=q)=>by omega) hL4;refine hR v4 Y' s 0 (λq=>v3.size<=q/\q<z) eF4 hp (λ_=>rfl) (λq hq=>by omega) (by rw[ep];exact hr) ?_;rw[ep];refine h4.mono λq _ hq=>⟨?_,λhQ=>?_⟩
    ·rcases hq with hq|hq|hq
     ·exact hq.1
     ·subst hq;exact hG _ hbG
     ·exact .inr (by omega)
    ·rcases hq with hq|hq|hq<;>omega
   refine nilP (hbk2.rI rfl ?_);rw[hal.2.1];refine ifD (λc2=>?_) λc2=>?_
   ·have c2':l.lim<c.batch:=by omega
    have eu:upL c (addL [x] l) = {addL [x] l with lim:=l.lim+1}:=by unfold upL;rw[hal.2.1,zB c2']
    have oku:=WiN hcok ok2;refine nilP (hbk2.rI rfl ?_);rw[hal.2.1];have hl128:=hok.lim;refine arN (m:=l.lim+1) (by omega) (by omega) (nilP (hbk2.s1 (by simp[liV]) λv3 o3 hb3=>rest v3 o3.ext ?_));rw[eu]at oku ⊢;exact hL2'.st o3.ext hb3 hs2 hcap2 oku
   ·have eu:upL c (addL [x] l)=addL [x] l:=by unfold upL;rw[hal.2.1,zA (by omega)]
    exact rest v2 (Ext.refl _ _) (by rw[eu];exact hL2')
 ·refine Wg2 hL1 hs1 (by simpa using hfit) (by simp) (ifT rfl ?_);have ep:putL c x l=([],l):=by unfold putL;rw[zB (by omega)]
  refine hR v1 Y' _ 6 (λ_=>False) (e.trans (Ext0.to e1)) hp (λhx=>absurd hx hfit) (λq hq=>hq.elim) (by rw[ep];exact RowR.nil _ _ _ _) ?_;rw[ep,ZC hl];exact(h'.keep0 e1).mono λq _ hq=>⟨hq,id⟩
end Go.Ar
namespace Go.Ar
open Go Go.Vc Go.Proofs
open Go.Bu (YT ZU YR cnt)
variable {σ:Hp}{F:Rg}{p hs:Nat}{A:AR}{Y:Lay}{T:Nat->Hp->Rg->Prop}
theorem AHY.cenS (h:AHY σ F Y A T){k q:Nat}{c:Cls}{ss:List SpA}(h1:Y.cps[k]?=some q)(h2:A.tb[k]?=some c)(h3:A.cen[k]?=some ss) :
 ∃G:Rg,(∀b,G b->F b)/\(∃ps,CeH σ G q c ps ss)/\(∀j,∃H:Rg,(∀b,H b->F b)/\(∀b,H b->¬G b)/\T j σ H)/\∀(σ':Hp) (ss':List SpA) (ps':List (Nat×Nat)) (G' H:Rg),
  Ext G σ σ'->(∀b,G' b->G b\/σ.size<=b)->CeH σ' G' q c ps' ss'->(∀b,(F b/\b<σ.size/\¬G b\/G' b)->H b)->AHY σ' H Y {A with cen:=A.cen.set k ss'} T:=by
 obtain⟨G,hG,hi,hd,hput⟩:=h.step (.cen k);have hk:k<A.cen.length:=(gSi.1 h3).1;refine⟨G,hG,Wlj h1 h2 h3 hi,λj=>hd (.tra j) (by intro e;cases e),λσ' ss' ps' G' H e hg hC hH=>?_⟩;refine hput σ' _ _ T G' H h.lay.setCen h.tl Wk2 e hg ?_ hH;simp only[AC];rw[h1,h2,zK hk];exact⟨ps',hC⟩
theorem Gp (h:AHY σ F Y A T)(k m:Int){R:Sl->Int->Hp->Prop}(hR:∀s σ',Ext F σ σ'->RowR s 1 (ints (XZ A k m)) σ' (λb=>σ.size<=b)->AHY σ' (Cut F σ) Y (Yg A k m) T->R s (ZS A k m) σ') :
 Wz.c (some ⟨Y.p,0,none⟩) k m σ R:=by
 refine Wz.o ?_;unfold Wz.v;refine Vd h k (λhk=>?_) λx hx hlt=>?_
 ·have e1:ZS A k m=1:=by unfold ZS;rw[hk];rfl
  have e2:Yg A k m=A:=by unfold Yg;rw[e1];rfl
  have e3:XZ A k m=[]:=by unfold XZ;rw[e1];rfl
  have:=hR ⟨none,0,0⟩ σ (Ext.refl _ _) (by rw[e3];exact RowR.nil _ _ _ _) (by rw[e2];exact h.cut);rw[e1]at this;exact ifT rfl this
 ·subst hx;have hk:A.ck (x:Int)=true:=by unfold AR.ck;simp;omega
  obtain⟨c,ss,q,t,r,hc,hss,hq,_,_,hok⟩:=h.at_ hlt;obtain⟨G,hG,⟨ps,hC⟩,_,hput⟩:=h.cenS hq hc hss;refine ifF rfl (nilP (h.hd.rS rfl (h.crowR hq ?_)));by_cases hm:m<0
  ·have e1:ZS A x m=1:=by unfold ZS;rw[hk,zB rfl,zB hm]
   have e2:Yg A x m=A:=by unfold Yg;rw[e1];rfl
   have e3:XZ A x m=[]:=by unfold XZ;rw[e1];rfl
   have:=hR ⟨none,0,0⟩ σ (Ext.refl _ _) (by rw[e3];exact RowR.nil _ _ _ _) (by rw[e2];exact h.cut);rw[e1]at this;exact WgH hC m hm this
  ·have e1:ZS A x m=0:=by unfold ZS;rw[hk,zB rfl,zA hm]
   have er:Kf A x m=Qg c m.toNat ss:=by unfold Kf;simp only[iTn];rw[hc,hss]
   have e2:Yg A x m = {A with cen:=A.cen.set x (Qg c m.toNat ss).2}:=by unfold Yg;rw[e1,zB rfl,er];rfl
   have e3:XZ A x m=(Qg c m.toNat ss).1:=by unfold XZ;rw[e1,zB rfl,er]
   refine WhJ hC m (by omega) λs σ' e hrow hC'=>?_;have:=hR s σ' (e.sub hG) (by rw[e3];exact hrow) (by rw[e2];exact hput σ' _ _ (Cut G σ) _ e (λb hb=>.inl hb.1) hC' (WiR hG));rw[e1]at this;exact this
theorem Wk7 {k:Nat}{f:TrA->TrA}:∀j,j≠Lb.tra k->AC {A with tra:=A.tra.modify k f} Y (traT {A with tra:=A.tra.modify k f} Y) j=AC A Y (traT A Y) j:=by
 intro j hj;cases j<;>first|rfl|skip
 rename_i k';have hne:k≠k':=λe=>hj (by rw[e]);simp only[AC,traT];simp[zCQ,hne]
theorem LayOk.setTra {k:Nat}{f:TrA->TrA}(h:LayOk A Y):LayOk {A with tra:=A.tra.modify k f} Y:=⟨h.c,h.t,h.cen,by simpa using h.tra,h.tb1,h.tb2,h.n1,h.n2,h.n3,h.st,h.room,h.ok⟩
theorem AHY.traS (h:AHY σ F Y A (traT A Y)){k q:Nat}{c:Cls}{t:TrA}(h1:Y.tps[k]?=some q)(h2:A.tb[k]?=some c)(h3:A.tra[k]?=some t) :
 ∃G:Rg,(∀b,G b->F b)/\TfH σ G q c.batch A.room t/\∀(σ':Hp) (f:TrA->TrA) (G' H:Rg),
  Ext G σ σ'->(∀b,G' b->G b\/σ.size<=b)->TfH σ' G' q c.batch A.room (f t)->(∀b,(F b/\b<σ.size/\¬G b\/G' b)->H b)->AHY σ' H Y {A with tra:=A.tra.modify k f} (traT {A with tra:=A.tra.modify k f} Y):=by
 obtain⟨G,hG,hi,hd,hput⟩:=h.step (.tra k);have hi':TfH σ G q c.batch A.room t:=by
  simp only[AC,traT]at hi;rw[h1,h2,h3]at hi;exact hi
 refine⟨G,hG,hi',λσ' f G' H e hg hC hH=>?_⟩;refine hput σ' _ _ _ G' H h.lay.setTra (λj=>traT.loc j) Wk7 e hg ?_ hH;simp only[AC,traT];rw[h1,h2,List.getElem?_modify_eq,h3];exact hC
theorem UU (h:AHY σ F Y A (traT A Y))(k:Int){R:Sl->Int->Hp->Prop}(hR:∀s σ',Ext F σ σ'->(∀b,InB s b->F b)->SlR s 1 (Wt (Ye A k)) σ' (InB s)->s.len<=s.cap->AHY σ' (λb=>F b/\¬InB s b) Y (Zf A k) (traT (Zf A k) Y)->R s (Zu A k) σ') :
 Wy.c (some ⟨Y.p,0,none⟩) k σ R:=by
 refine Wy.o ?_;unfold Wy.v;refine Vd h k (λhk=>?_) λx hx hlt=>?_
 ·have e1:Zu A k=1:=by unfold Zu;rw[hk];rfl
  have e2:Zf A k=A:=by unfold Zf;rw[e1];rfl
  have e3:Ye A k=[]:=by unfold Ye;rw[e1];rfl
  have:=hR ⟨none,0,0⟩ σ (Ext.refl _ _) (λb hb=>by obtain⟨a,h1,_⟩:=hb;cases h1) (by rw[e3];exact SlR.nil _ _ _ _) (zD _) (by rw[e2];exact h.mono λb _ hb=>⟨hb,λ⟨a,h1,_⟩=>by cases h1⟩);rw[e1]at this;exact ifT rfl this
 ·subst hx;have hk:A.ck (x:Int)=true:=by unfold AR.ck;simp;omega
  obtain⟨c,ss,q,t,r,hc,hss,hq,ht,hr,hok⟩:=h.at_ hlt;obtain⟨G,hG,hC,hput⟩:=h.traS hr hc ht;refine ifF rfl (nilP (h.hd.rS rfl (h.trowR hr ?_)));by_cases hb:t.bs=[]
  ·have e1:Zu A x=4:=by unfold Zu;rw[hk,zB rfl];simp only[iTn];rw[ht];simp[hb]
   have e2:Zf A x=A:=by unfold Zf;rw[e1];rfl
   have e3:Ye A x=[]:=by unfold Ye;rw[e1];rfl
   have:=hR ⟨none,0,0⟩ σ (Ext.refl _ _) (λb hb=>by obtain⟨a,h1,_⟩:=hb;cases h1) (by rw[e3];exact SlR.nil _ _ _ _) (zD _) (by rw[e2];exact h.mono λb _ hb=>⟨hb,λ⟨a,h1,_⟩=>by cases h1⟩);rw[e1]at this;exact Wcn hC hb this
  ·have e1:Zu A x=0:=by unfold Zu;rw[hk,zB rfl];simp only[iTn];rw[ht];simp[hb]
   have e2:Zf A x = {A with tra:=A.tra.modify x TrA.rem}:=by unfold Zf;rw[e1,zB rfl];rfl
   have e3:Ye A x=t.bs.getLast?.getD []:=by unfold Ye;rw[e1,zB rfl];simp only[iTn];rw[ht]
   refine WgS hC hb λs σ' e hin hrow hcap hC'=>?_;have hreg:∀b,(F b/\b<σ.size/\¬G b\/G b/\¬InB s b)->F b/\¬InB s b:=λb hb=>by
    rcases hb with hb|hb
    ·exact⟨hb.1,λhi=>hb.2.2 (hin b hi)⟩
    ·exact⟨hG b hb.1,hb.2⟩
   have:=hR s σ' (e.sub hG) (λb hb=>hG b (hin b hb)) (by rw[e3];exact hrow) hcap (by rw[e2];exact hput σ' _ (λb=>G b/\¬InB s b) _ e (λb hb=>.inl hb.1) hC' hreg);rw[e1]at this;exact this
theorem WaJ (h:AHY σ F Y A (traT A Y))(k:Int){sl:Sl}{xs:List Int}{X:Rg}(hs:SlR sl 1 (Wt xs) σ X)(hi:∀x∈xs,I63 x){R:Bool->Int->Hp->Prop}(hR:∀σ',Ext F σ σ'->AHY σ' (Grow F σ) Y (Qh A k xs) (traT (Qh A k xs) Y)->R (Kb A k xs) (V5 A k xs) σ') :
 WD.c (some ⟨Y.p,0,none⟩) k sl σ R:=by
 refine WD.o ?_;unfold WD.v;have hlen:sl.len=xs.length:=by have:=hs.1;simp[Wt]at this;omega
 have no:∀e:Int,e≠0->V5 A k xs=e->R false e σ:=λe he h1=>by
  have e3:Kb A k xs=false:=by unfold Kb;rw[zT (by omega)];rfl
  have e2:Qh A k xs=A:=by unfold Qh;rw[e3];rfl
  have:=hR σ (Ext.refl _ _) (by rw[e2];exact h.mono λb _ hb=>.inl hb);rw[h1,e3]at this;exact this
 refine Vd h k (λhk=>ifT rfl (no 1 (by decide) (by unfold V5;rw[hk];rfl))) λx hx hlt=>?_;subst hx;have hk:A.ck (x:Int)=true:=by unfold AR.ck;simp;omega
 obtain⟨c,ss,q,t,r,hc,hss,hq,ht,hr,hok⟩:=h.at_ hlt;obtain⟨G1,ps,hG1,hCe⟩:=h.cen hq hc hss;obtain⟨G,hG,hC,hput⟩:=h.traS hr hc ht;have eE:V5 A x xs=if xs.length=c.batch then(if xs.all (λx=>isTk c ss x==some true)then 0 else 8)else 1:=by unfold V5;rw[hk,zB rfl];simp only[iTn];rw[hc,hss]
 refine ifF rfl (nilP (h.hd.rS rfl (h.tabR (d:=2) hc (by omega) ?_)));simp only[zA (show ¬(2=0) by omega),zA (show ¬(2=1) by omega)];rw[bneN];refine iff_ (λhb=>?_) λhb=>?_
 ·have:¬xs.length=c.batch:=by rw[←hlen];simpa using hb
  exact no 1 (by decide) (by rw[eE,zA this])
 have hbl:xs.length=c.batch:=by rw[←hlen];simpa using hb
 rw[zB hbl]at eE;have h32:c.batch<=32:=hok.2.2.2.2.2.2.2;refine Zw (a:=.i .i64) (λ(i:Int) v=>∃j:Nat,i=(j:Int)/\j<=xs.length/\v=σ/\∀y∈xs.take j,isTk c ss y=some true) (λi _=>xs.length-i.toNat) ⟨0,rfl,by omega,rfl,by simp⟩ ?_;rintro i v ⟨j,rfl,hj,rfl,hall⟩;refine ifD (λhlt2=>?_) λhge=>?_
 ·have hj':j<xs.length:=by omega
  have hx:xs[j]?=some xs[j]:=gGe hj';have htk:xs.take (j+1)=xs.take j++[xs[j]]:=by rw[zr,hx];rfl
  have hmem:=zj hj';generalize xs[j]=y at *;have bad:isTk c ss y≠some true->R false 8 v:=λhn=>no 8 (by decide) (by
   rw[eE,zA];intro ha;rw[zw]at ha;exact hn (by simpa using ha y hmem))
  refine hs.ixI hx (nilP (h.hd.rS rfl (h.crowR hq (HX hCe _ (hi y hmem) (λb hb=>?_) λhb=>?_))))
  ·refine JnB.intro (ifF rfl ?_);cases b
   ·exact ifT rfl (bad (by rw[hb];simp))
   ·refine ifF rfl (arN (m:=j+1) (by omega) (by omega) ⟨⟨j+1,rfl,by omega,rfl,λz hz=>?_⟩,by omega⟩);rw[htk]at hz;rcases zM.1 hz with h1|h1
    ·exact hall z h1
    ·simp at h1;rw[h1];exact hb
  ·exact JnB.intro (ifT rfl (ifT rfl (bad (by rw[hb];simp))))
 ·have:j=xs.length:=by omega
  subst this;rw[zAA]at hall;have eE0:V5 A x xs=0:=by
   rw[eE,zB];rw[zw];intro y hy;simp[hall y hy]
  have eV:Kb A x xs=decide (t.bs.length<A.room):=by unfold Kb;rw[eE0];simp only[iTn];rw[ht];simp
  refine nilP (h.hd.rS rfl (h.trowR hr (We5 hC hs (by omega) (λhn=>absurd hbl hn) (λ_ hf=>?_) λ_ hf σ' e hC'=>?_)))
  ·rw[zT (by omega)]at eV;have e2:Qh A x xs=A:=by unfold Qh;rw[eV];rfl
   have:=hR v (Ext.refl _ _) (by rw[e2];exact h.mono λb _ hb=>.inl hb);rw[eE0,eV]at this;exact this
  ·rw[zQ (by omega)]at eV;have e2:Qh A x xs = {A with tra:=A.tra.modify x λt=>{t with bs:=t.bs++[xs]}}:=by unfold Qh;rw[eV,zB rfl];rfl
   have:=hR σ' (e.sub hG) (by rw[e2];exact hput σ' (λt=>{t with bs:=t.bs++[xs]}) (Grow G v) _ e (λb hb=>hb) hC' (Uq hG λb hb=>hb));rw[eE0,eV]at this;exact this
theorem CeH.stB {q:Nat}{c:Cls}{ps:List (Nat×Nat)}{ss:List SpA}{G:Rg}(h:CeH σ G q c ps ss):∀s∈ss,s.st<=1024:=by
 intro s hs;obtain⟨i,hi⟩:=zL hs;have hl:=(gSi.1 hi).1;have hp:i<ps.length:=by rw[h.len];exact hl
 have:=(h.sp _ _ _ (gGe hp) hi).fit;omega
theorem WbF (h:AHY σ F Y A T)(k:Int){sl:Sl}{xs:List Int}(hi:∀x∈xs,I63 x)(hl:xs.length<=1000000)(hcap:sl.len<=sl.cap)
 (hs:(∃X:Rg,SlR sl 1 (Wt xs) σ X/\∀b,b<σ.size->X b->¬F b)\/∃j,∀H,T j σ H->SlR sl 1 (Wt xs) σ H)
 {R:Int->Hp->Prop} (hR:∀σ',Ext F σ σ'->AHY σ' (Grow F σ) Y (Zb A k xs) T->R (Z6 A k xs) σ') :
 WJ.c (some ⟨Y.p,0,none⟩) k sl σ R:=by
 refine WJ.o ?_;unfold WJ.v;have no:∀e:Int,e≠0->Z6 A k xs=e->R e σ:=λe he h1=>by
  have e2:Zb A k xs=A:=by unfold Zb;rw[zA (by omega)]
  have:=hR σ (Ext.refl _ _) (by rw[e2];exact h.mono λb _ hb=>.inl hb);rw[h1]at this;exact this
 refine Vd h k (λhk=>ifT rfl (no 1 (by decide) (by unfold Z6;rw[hk];rfl))) λx hx hlt=>?_;subst hx;have hk:A.ck (x:Int)=true:=by unfold AR.ck;simp;omega
 obtain⟨c,ss,q,t,r,hc,hss,hq,_,_,hok⟩:=h.at_ hlt;obtain⟨G,hG,⟨ps,hC⟩,hd,hput⟩:=h.cenS hq hc hss;have hX:∃X:Rg,SlR sl 1 (Wt xs) σ X/\∀b,X b->¬G b:=by
  rcases hs with⟨X,h1,h2⟩|⟨j,hj⟩
  ·exact⟨Cut X σ,(SlR.loc _ _ _).cut h1,λb hb hg=>h2 b hb.2 hb.1 (hG b hg)⟩
  ·obtain⟨H,_,hn,hT⟩:=hd j;exact⟨H,hj H hT,hn⟩
 obtain⟨X,hsX,hXG⟩:=hX;have eE:Z6 A x xs=putE c ss xs:=by unfold Z6;rw[hk,zB rfl];simp only[iTn];rw[hc,hss]
 refine ifF rfl (nilP (h.hd.rS rfl (h.crowR hq (WjT hC hsX hXG hi hl hcap (λhn=>?_) λh0 o σ1 e1 hrow hC1=>?_))))
 ·refine ifT (by simpa using hn) (no _ hn eE)
 ·refine ifF rfl ?_;have eS:Zb A x xs=KX {A with cen:=A.cen.set x (sweep (xs.foldl (put1 c) ss))} ((ZH (xs.foldl (put1 c) ss)).map λs=>(s,c.pages)):=by
   unfold Zb;rw[eE,zB h0];simp only[iTn];rw[hc,hss]
  have hA1:=hput σ1 _ _ (Cut G σ) _ e1 (λb hb=>.inl hb.1) hC1 (WiR hG);rw[Wke]at hrow;have hlr:((ZH (xs.foldl (put1 c) ss)).map λs=>(s,c.pages)).length<=1000000/\∀r∈((ZH (xs.foldl (put1 c) ss)).map λs=>(s,c.pages)),r.1<=1000000:=by
   have hfold:∀(ys:List Int) (ls:List SpA),((ys.foldl (put1 c) ls).map (·.st))=ls.map (·.st):=by
    intro ys
    induction ys with
    | nil=>intro ls;rfl
    | cons y ys ih=>
     intro ls;rw[zBV,ih];unfold put1;split
     ·rename_i j hj;split
      ·rename_i s hs2;split
       ·simp only[zDQ];apply zn;intro z;rw[zCH];by_cases hz:j=z
        ·subst hz;rw[zB rfl];have:=(gSi.1 hs2).1;rw[zB (by simpa using this)];simp[hs2,SpA.put]
        ·rw[zA hz]
       ·rfl
      ·rfl
     ·rfl
   have hsw:∀s∈ZH (xs.foldl (put1 c) ss),s∈ss.map (·.st):=by
    intro s hs2;rw[←hfold xs ss];unfold ZH at hs2;simp only[zC,zH]at hs2 ⊢;obtain⟨z,hz,rfl⟩:=hs2;exact⟨z,hz.1,rfl⟩
   have hfew:=hC.few;refine⟨?_,λr hr=>?_⟩
   ·have:(ZH (xs.foldl (put1 c) ss)).length<=(xs.foldl (put1 c) ss).length:=by
     unfold ZH;rw[zh];exact zEJ _ _
    have h2:(xs.foldl (put1 c) ss).length=ss.length:=by have:=congrArg List.length (hfold xs ss);simpa using this
    rw[zh];omega
   ·obtain⟨s,hs2,rfl⟩:=zC.1 hr;obtain⟨z,hz,rfl⟩:=zC.1 (hsw s hs2);have:=hC.stB z hz;simp only;omega
  refine We8 hA1 hrow.slR (λb _ hb hf=>by have:=hf.2;omega) hlr.1 hlr.2 λσ2 e2 hA2=>?_;have:=hR σ2 ((e1.sub hG).trans (e2.sub λb hb=>hb.1)) ?_
  ·rw[eE,h0]at this;exact this
  ·rw[eS];exact hA2.mono λb _ hb=>by
    rcases hb with hb|hb
    ·exact .inl hb.1
    ·exact .inr (ze e1.1 hb)
theorem WiC (l:List (Nat×Nat))(x:Int):mget (runI l) x=(l.find? λr=>(r.1:Int)==x).map λr=>(r.2:Int):=by
 induction l with
 | nil=>rfl
 | cons r l ih=>
  have:runI (r::l)=((r.1:Int),(r.2:Int))::runI l:=rfl;rw[this,Qm,zDA,ih];by_cases h:(r.1:Int)=x
  ·simp[h]
  ·have:((r.1:Int)==x)=false:=by simpa using h
   rw[this,zA h]
theorem Wiz (l:List (Nat×Nat))(x:Int):mdel (runI l) x=runI (l.filter λq=>!((q.1:Int)==x)):=by
 unfold mdel runI;rw[List.filter_map];rfl
theorem Wif (l:List (Nat×Nat))(x m:Nat):mset (runI l) (x:Int) (m:Int)=runI (takeAS.mset2 l x m):=by
 unfold mset takeAS.mset2 runI;have e:(l.map λr=>((r.1:Int),(r.2:Int))).any (λy=>y.1==(x:Int))=l.any λr=>r.1==x:=by
  rw[List.any_map]
  congr 1
  funext r
  exact beqN r.1 x
 rw[e];split
 ·rw[zAJ,zAJ];apply zy;intro r _;simp only[Function.comp_def];rw[beqN];split<;>rfl
 ·simp
theorem AHY.runsS (h:AHY σ F Y A T):F Y.rn/\MapL σ Y.rn .i64 (.i .i64) (runI A.runs)/\∀(σ':Hp) (rs:List (Nat×Nat)),ZY σ σ' Y.rn->MapL σ' Y.rn .i64 (.i .i64) (runI rs)->AHY σ' F Y {A with runs:=rs} T:=by
 obtain⟨G,hG,⟨gr,hm⟩,_,hput⟩:=h.step .runs;refine⟨hG _ gr,hm,λσ' rs ho h'=>?_⟩;exact hput σ' _ _ T G _ h.lay.setRuns h.tl Wjv (ho.ext.sub λb hb=>by subst hb;exact gr) (λb hb=>.inl hb) ⟨gr,h'⟩ (WaB hG λb hb=>hb)
theorem Wa9 (h:AHY σ F Y A T)(x:Int)(hf:∀r∈A.runs,r.1<=1000000){R:Int->Hp->Prop}(hR:∀σ',Ext F σ σ'->AHY σ' (Grow F σ) Y (ZT A x) T->R (QS A x) σ') :
 WG.c (some ⟨Y.p,0,none⟩) x σ R:=by
 refine WG.o ?_;unfold WG.v;obtain⟨gr,hm,hput⟩:=h.runsS;refine Vs h (ifF rfl (nilP (h.hd.rM rfl ⟨_,hm,?_⟩)));rw[WiC];cases hr:(A.runs.find? λr=>(r.1:Int)==x)with
 | none=>
  have e1:QS A x=8:=by unfold QS Gy;rw[hr];rfl
  have e2:ZT A x=A:=by unfold ZT Gy;rw[hr]
  have:=hR σ (Ext.refl _ _) (by rw[e2];exact h.mono λb _ hb=>.inl hb);rw[e1]at this;exact ifT rfl this
 | some r=>
  have e1:QS A x=0:=by unfold QS Gy;rw[hr];rfl
  have e2:ZT A x=KO {A with runs:=A.runs.filter λq=>!((q.1:Int)==x)} r:=by unfold ZT Gy;rw[hr]
  have hrm:=zCW hr;have hrx:(r.1:Int)=x:=by simpa using zCV hr
  refine ifF rfl (nilP (h.hd.rM rfl ⟨_,hm,λv1 ho1 _ hm1=>?_⟩));have o1:=ho1 _ rfl;have hm1':MapL v1 Y.rn .i64 (.i .i64) (mdel (runI A.runs) x):=hm1;rw[Wiz]at hm1';have hA1:=hput v1 _ o1 hm1';simp only[zb,zBY];refine nw (cs:=[.int .i64 x,.int .i64 (r.2:Int)]) λv2 hz2 e2' hb2=>?_;have hA2:=hA1.cut.keep0 e2';have hsl:SlR ⟨some ⟨v1.size,0,none⟩,1,1⟩ 2 (rV [r]) v2 (· = v1.size):=by
   refine⟨rfl,.inr ⟨_,0,_,rfl,rfl,hb2.q,λj hj=>?_⟩⟩;have:rV [r]=[.int .i64 (r.1:Int),.int .i64 (r.2:Int)]:=rfl;rw[this,hrx,zG]
  refine We8 hA2 hsl (λb _ hb hc=>by have:=hc.2;omega) (by simp) (λq hq=>by simp at hq;subst hq;exact hf _ hrm) λv3 e3 hA3=>?_;have e13:Ext F σ v3:=(o1.ext.sub λb hb=>by subst hb;exact gr).trans ((Ext0.to e2').trans (e3.sub λb hb=>hb.1));have:=hR v3 e13 (by
   rw[e2];exact hA3.mono λb _ hb=>by
    rcases hb with hb|hb
    ·exact .inl hb.1
    ·exact .inr (by have:=o1.1;omega))
  rw[e1]at this;exact this
theorem Q9 (rs:List (Nat×Nat)):∀A:AR,(KX A rs).tb=A.tb/\(KX A rs).room=A.room/\(KX A rs).tra=A.tra/\(KX A rs).cen=A.cen/\(KX A rs).runs=A.runs/\(KX A rs).n=A.n:=by
 induction rs with
 | nil=>intro A;exact⟨rfl,rfl,rfl,rfl,rfl,rfl⟩
 | cons r rs ih=>intro A;exact ih (KO A r)
theorem Va (A:AR)(k:Int)(xs:List Int):(Zb A k xs).tb=A.tb/\(Zb A k xs).room=A.room/\(Zb A k xs).tra=A.tra/\(Zb A k xs).runs=A.runs/\(Zb A k xs).n=A.n:=by
 unfold Zb;split
 ·split
  ·exact⟨(Q9 _ _).1,(Q9 _ _).2.1,(Q9 _ _).2.2.1,(Q9 _ _).2.2.2.2.1,(Q9 _ _).2.2.2.2.2⟩
  ·exact⟨rfl,rfl,rfl,rfl,rfl⟩
 ·exact⟨rfl,rfl,rfl,rfl,rfl⟩
theorem TrA.tick_sub (t:TrA):∀xs∈t.tick.bs,xs∈t.bs:=λxs h=>zDI h
theorem QX {α:Type}{l:List α}{k:Nat}{t:α}{f:α->α}(h:l[k]?=some t):l.modify k f=l.set k (f t):=by
 apply zn;intro i;rw[zCH,zCQ];by_cases hi:k=i
 ·subst hi;have:=(gSi.1 h).1;rw[zB rfl,zB this,h];simp
 ·simp[hi]
def Wkq (A:AR)(Y:Lay)(k r:Nat)(c:Cls)(t:TrA)(out:Sl)(sls:List Sl)(j:Nat):Hp->Rg->Prop:=
 if j=k then λσ G=>TfH σ G r c.batch A.room t.tick/\SlR out 1 (sls.map slV) σ G/\Bat sls t.out σ G else traT A Y j
theorem Wkq.loc {k r:Nat}{c:Cls}{t:TrA}{out:Sl}{sls:List Sl}(j:Nat):Lcl (Wkq A Y k r c t out sls j):=by
 unfold Wkq;split
 ·exact λσ σ' F G ⟨h1,h2,h3⟩ hz hs=>⟨TfH.loc _ _ _ _ h1 hz hs,SlR.loc _ _ _ _ _ _ _ h2 hz hs,Bat.loc _ _ _ _ _ _ h3 hz hs⟩
 ·exact traT.loc j
end Go.Ar
namespace Go.Bu
variable {n:Nat}{S:Nat->Bool}
theorem KH {m a k x:Nat}(h:Zg n S m a k=some x):∃j,j<k/\m<=2^j/\a<=2^j/\(Qp n S j).head?=some x/\∀i,i<j->m<=2^i->a<=2^i->Qp n S i=[]:=by
 have GG:∀k,Zg n S m a k=none->∀i,i<k->m<=2^i->a<=2^i->Qp n S i=[]:=by
  intro k
  induction k with
  | zero=>intro _ i hi;omega
  | succ k ih=>
   intro hn i hi h1 h2;rw[Zg]at hn;split at hn
   ·cases hn
   ·rename_i hn';by_cases e:i=k
    ·subst e;rw[zB ⟨h1,h2⟩]at hn;simpa using hn
    ·exact ih hn' i (by omega) h1 h2
 induction k with
 | zero=>simp[Zg]at h
 | succ k ih=>
  rw[Zg]at h;split at h
  ·rename_i y hy;cases h;obtain⟨j,h1,h2⟩:=ih hy;exact⟨j,by omega,h2⟩
  ·rename_i hn;split at h
   ·rename_i hc;exact⟨k,by omega,hc.1,hc.2,h,GG k hn⟩
   ·cases h
theorem VL {m a:Nat}:∀{k},Zg n S m a k=none->∀i,i<k->m<=2^i->a<=2^i->Qp n S i=[]
 | 0,_,i,hi,_,_=>by omega
 | k+1,hn,i,hi,h1,h2=>by
  rw[Zg]at hn;split at hn
  ·cases hn
  ·rename_i hn';by_cases e:i=k
   ·subst e;rw[zB ⟨h1,h2⟩]at hn;simpa using hn
   ·exact VL hn' i (by omega) h1 h2
theorem take_in (hb:Bounded S n){m a x:Nat}(h:YR n S m a=some x):x+m<=n/\∀y,x<=y->y<x+m->S y=true:=by
 obtain⟨j,_,hm,_,hh,_⟩:=KH h;have hmem:x∈Qp n S j:=List.mem_of_head? hh;obtain⟨q,rfl,hc⟩:=(Z3 hb).1 hmem;have:=Zd hb (Y8.1 hc).1;exact⟨by omega,λy h1 h2=>QV hc (Zv.2 (by omega))⟩
end Go.Bu
namespace Go.Ar
open Go Go.Vc Go.Proofs
open Go.Bu (YT ZU YR cnt)
variable {σ:Hp}{F H:Rg}{p hs:Nat}{A:AR}{sp:Sp}{Y:Lay}{T:Nat->Hp->Rg->Prop}
structure W2 (σ:Hp) (F H:Rg) (Y:Lay) (A:AR) (T:Nat->Hp->Rg->Prop) (sp:Sp):Prop where
 a:AHY σ F Y A T
 s:SpH3 σ H Y.hs sp
 d:∀b,F b->¬H b
 g:Gl σ
 o:Off F
 o2:Off H
def Both (F H:Rg):Rg:=λb=>F b\/H b
theorem W2.arena (h:W2 σ F H Y A T sp){σ':Hp}{A':AR}(e:Ext F σ σ')(ha:AHY σ' F Y A' T):W2 σ' F H Y A' T sp:=
 ⟨ha,Lcl.keep SpH3.loc h.s e λb _ hb hf=>h.d b hf hb,h.d,h.g.keep e h.o,h.o,h.o2⟩
theorem W2.space (h:W2 σ F H Y A T sp){σ':Hp}{sp':Sp}(e:Ext H σ σ')(hs:SpH3 σ' H Y.hs sp'):W2 σ' F H Y A T sp':=
 ⟨Lcl.keep AHY.loc h.a e λb _ hb hf=>h.d b hb hf,hs,h.d,h.g.keep e h.o2,h.o,h.o2⟩
theorem W2.keep0 (h:W2 σ F H Y A T sp){σ':Hp}(e:Ext0 σ σ'):W2 σ' F H Y A T sp:=⟨h.a.keep0 e,h.s.keep0 e,h.d,h.g.keep0 e,h.o,h.o2⟩
theorem W2.cut (h:W2 σ F H Y A T sp):W2 σ (Cut F σ) (Cut H σ) Y A T sp:=⟨h.a.cut,Lcl.cut SpH3.loc h.s,λb hb hc=>h.d b hb.1 hc.1,h.g,h.o.sub λb hb=>hb.1,h.o2.sub λb hb=>hb.1⟩
theorem W2.arenaG (h:W2 σ F H Y A T sp){σ':Hp}{A':AR}(e:Ext F σ σ')(ha:AHY σ' (Grow F σ) Y A' T):W2 σ' (Grow F σ) (Cut H σ) Y A' T sp:=
 ⟨ha,Lcl.keep SpH3.loc (Lcl.cut SpH3.loc h.s) e λb _ hb hf=>h.d b hf hb.1,λb hb hc=>by
  rcases hb with hb|hb
  ·exact h.d b hb hc.1
  ·have:=hc.2;omega,h.g.keep e h.o,h.o.grow h.g,h.o2.sub λb hb=>hb.1⟩
theorem W2.rSp (h:W2 σ F H Y A T sp){K:Option Addr->Prop}(hK:K (some ⟨Y.hs,0,none⟩)):LdP (Addr.add ⟨Y.p,0,none⟩ 1) σ K:=h.a.hd.rP rfl hK
theorem G0 (st:List Nat)(a m:Nat):VA st a (m+1)=addT (VA st a m) ((a+m:Nat):Int):=by
 unfold VA;rw[zBD,zAD,zFG];rfl
theorem Wg0 {a m:Int}(h:mapE sp a m≠0):mapS sp a m=sp:=by unfold mapS;rw[zA h]
theorem Gq {size:Nat}(h1:1<=size)(h:∀j,1<=j->j*size+size<=sp.st.length->mapE sp ((j*size:Nat):Int) (size:Int)≠0):growStart sp size=none:=by
 unfold growStart;rw[zBI];intro x hx;obtain⟨j,hj,rfl⟩:=zC.1 hx;rw[zW]at hj;have h2:(j+1)*size<=sp.st.length:=ze (zAG size hj) (zDT _ _);rw[zc,zED]at h2;by_cases h0:j=0
 ·subst h0;simp
 ·have:=h j (by omega) h2;have hbe:(mapE sp ((j*size:Nat):Int) (size:Int)==0)=false:=by simpa only[zAR]using this
  rw[hbe,zCU];simp
theorem Gu {size j:Nat}(h1:1<=size)(h0:1<=j)(hf:j*size+size<=sp.st.length)(hm:mapE sp ((j*size:Nat):Int) (size:Int)=0)(h:∀i,1<=i->i<j->mapE sp ((i*size:Nat):Int) (size:Int)≠0):growStart sp size=some (j*size):=by
 unfold growStart;have hj:j<sp.st.length/size:=by
  rw[Nat.lt_iff_add_one_le,Nat.le_div_iff_mul_le h1,zc,zED];exact hf
 have hsplit:List.range (sp.st.length/size)=List.range j++(j::(List.range (sp.st.length/size-j-1)).map (j+1 + ·)):=by
  apply zn;intro i;rw[List.getElem?_append,zCY];by_cases hi:i<j
  ·rw[zB hi,zBB (by omega),zBB hi]
  ·rw[zA hi];by_cases hij:i=j
   ·subst hij;rw[zCD,zEK,zBB hj]
   ·rw[show i-j=(i-j-1)+1 by omega,zFY,za];by_cases hl:i<sp.st.length/size
    ·rw[zBB hl,zBB (by omega)];simp only[zb]
     congr 1;omega
    ·rw[zV (by rw[zCY];omega),zV (by rw[zCY];omega)];rfl
 rw[hsplit,zAD,List.find?_append];have hnone:((List.range j).map (· * size)).find? (λ(s:Nat)=>s != 0&&mapE sp s size==0)=none:=by
  rw[zBI];intro x hx;obtain⟨i,hi,rfl⟩:=zC.1 hx;rw[zW]at hi;by_cases h0:i=0
  ·subst h0;simp
  ·have:=h i (by omega) hi;have hbe:(mapE sp ((i*size:Nat):Int) (size:Int)==0)=false:=by simpa only[zAR]using this
   rw[hbe,zCU];simp
 rw[hnone,zI,zDA];have:(j*size != 0&&mapE sp ((j*size:Nat):Int) (size:Int)==0)=true:=by
  rw[hm];have hp:0<j*size:=Nat.mul_pos (by omega) (by omega);have hne:j*size≠0:=by omega
  simp[hne]
 rw[this];rfl
theorem WhU (h:W2 σ F H Y A T sp){size:Nat}(h1:size=16\/size=32\/size=64){R:Bool->Hp->Prop}(h0:VE A sp size=none->∀σ',Ext (Both F H) σ σ'->W2 σ' F H Y A T sp->R false σ')
 (hR:∀A' sp',VE A sp size=some (A',sp')->∀σ',Ext (Both F H) σ σ'->W2 σ' F H Y A' T sp'->R true σ'):Yx.c (some ⟨Y.p,0,none⟩) (size:Int) σ R:=by
 refine Yx.o ?_;unfold Yx.v;have hn2:sp.st.length<=1024:=by obtain⟨q,r,l,B,hh⟩:=h.s;exact hh.n2
 have es:∀{a b:Hp},Ext H a b->Ext (Both F H) a b:=λe=>e.sub λb hb=>.inr hb;have ea:∀{a b:Hp},Ext F a b->Ext (Both F H) a b:=λe=>e.sub λb hb=>.inl hb;have hmul:∀j,j*size+size=(j+1)*size:=λj=>by rw[zc,zED]
 refine Zw (a:=.i .i64) (λ(t:Int) v=>∃j:Nat,t=((j*size:Nat):Int)/\1<=j/\j*size<=1024+64/\Ext (Both F H) σ v/\W2 v F H Y A T sp/\∀i,1<=i->i<j->i*size+size<=sp.st.length->mapE sp ((i*size:Nat):Int) (size:Int)≠0) (λt _=>2000-t.toNat)
  ⟨1,by omega,zD _,by omega,Ext.refl _ _,h,λi h1 h2=>by omega⟩ ?_
 rintro t v ⟨j,rfl,hj,hb,e,hW,hall⟩;refine arN (m:=j*size+size) (by omega) (by omega) (nilP (hW.rSp (Wa1 hW.s (ifD (λhlt=>?_) λhge=>?_))))
 ·have hf:j*size+size<=sp.st.length:=by omega
  refine nilP (hW.rSp (Wlw hW.s hW.g hW.o2 _ _ λv2 e2 hS2=>?_));refine iff_ (λhc=>?_) λhc=>?_
  ·have hne:mapE sp ((j*size:Nat):Int) (size:Int)≠0:=by simpa using hc
   rw[Wg0 hne]at hS2;refine arN (m:=(j+1)*size) (by rw[←hmul];omega) (by rw[←hmul];omega) ⟨⟨j+1,rfl,by omega,by rw[←hmul];omega,e.trans (es e2),hW.space e2 hS2,λi hi1 hi2 hif=>?_⟩,by rw[←hmul];omega⟩;by_cases hij:i=j
   ·subst hij;exact hne
   ·exact hall i hi1 (by omega) hif
  ·have hm0:mapE sp ((j*size:Nat):Int) (size:Int)=0:=by simpa using hc
   have hW2:=hW.space e2 hS2;have hfit:∀i,i<j->i*size+size<=sp.st.length:=λi hi=>by
    have:(i+1)*size<=j*size:=zAG _ hi;rw[hmul];omega
   have hgs:=Gu (sp:=sp) (by omega) hj hf hm0 λi hi1 hi2=>hall i hi1 hi2 (hfit i hi2);have hga:VE A sp size=some ({A with st:=VA A.st (j*size/16) (size/16),S:=ZU A.n A.S ((j*size:Nat):Int) size},mapS sp ((j*size:Nat):Int) size):=by unfold VE;rw[hgs]
   have hd16:(j*size)%16=0:=by
    rcases h1 with rfl|rfl|rfl
    ·omega
    ·omega
    ·omega
   refine nz (by decide) (arN (m:=j*size/16) (by rw[YQ (by omega)];simp) (by omega) ?_);refine Zw (a:=.i .i64) (λ(t:Int) w=>∃i:Nat,t=((j*size/16+i:Nat):Int)/\i<=size/16/\Ext (Both F H) σ w/\W2 w F H Y {A with st:=VA A.st (j*size/16) i} T (mapS sp ((j*size:Nat):Int) size)) (λt _=>200-t.toNat)
    ⟨0,by omega,by omega,e.trans (es e2),hW2⟩ ?_
   rintro t w ⟨i,rfl,hi,ew,hWw⟩;refine arN (m:=j*size+size) (by omega) (by omega) (nz (by decide) (arN (m:=(j*size+size)/16) (by rw[YQ (by omega)];simp) (by omega) (ifD (λhlt2=>?_) λhge2=>?_)))
   ·refine nilP (hWw.a.hd.rP rfl (hWw.a.AddH _ λw2 t2 e3 hA3=>?_));refine arN (m:=j*size/16+(i+1)) (by omega) (by omega) ⟨⟨i+1,rfl,by omega,ew.trans (ea e3),?_⟩,by omega⟩;rw[G0];exact hWw.arena e3 hA3
   ·have hii:i=size/16:=by omega
    subst hii;refine nilP (hWw.a.hd.rP rfl (hWw.a.Give _ _ λw2 t2 e3 hA3=>?_));exact hR _ _ hga w2 (ew.trans (ea e3)) (hWw.arena e3 hA3)
 ·have hgs:=Gq (sp:=sp) (size:=size) (by omega) λi hi1 hif=>by
   by_cases hij:i<j
   ·exact hall i hi1 hij hif
   ·have:j*size<=i*size:=zAG _ (by omega);omega
  have hga:VE A sp size=none:=by unfold VE;rw[hgs]
  exact h0 hga v e hW
theorem Wd9 {m a:Nat}(h1:1<=m)(h2:m<=64)(ha:a=1\/a=2\/a=4\/a=8\/a=16):Go.Bu.takeArg (m:Int) (a:Int)=true:=by
 have hp:Go.Bu.isPow (a:Int)=true:=by rcases ha with rfl|rfl|rfl|rfl|rfl<;>decide
 unfold Go.Bu.takeArg;rw[hp];simp only[zDH,zF,zN];omega
theorem W2.take (h:W2 σ F H Y A T sp){m a:Nat}(hok:Go.Bu.takeArg (m:Int) (a:Int)=true){R:Int->Int->Hp->Prop}(h0:YR A.n A.S m a=none->∀σ',Ext F σ σ'->W2 σ' F H Y A T sp->R 0 6 σ')
 (h1:∀x,YR A.n A.S m a=some x->x+m<=A.n->∀σ',Ext F σ σ'->W2 σ' F H Y {A with S:=Go.Bu.take A.S x (x+m)} T sp->R (x:Int) 0 σ'):XA.c (some ⟨Y.fr,0,none⟩) (m:Int) (a:Int) σ R:=by
 have hbnd:Go.Bu.Bounded A.S A.n:=by obtain⟨sb,ms,hB,_⟩:=h.a.free;exact hB.bnd
 refine h.a.TakeB _ _ λσ' e hA=>?_;have hW:=h.arena e hA;cases ht:YR A.n A.S m a with
 | none=>
  have e1:Go.Bu.takeE A.n A.S (m:Int) (a:Int)=6:=by unfold Go.Bu.takeE;rw[hok,zB rfl];simp only[iTn];rw[ht]
  have e2:Go.Bu.takeV A.n A.S (m:Int) (a:Int)=0:=by unfold Go.Bu.takeV;rw[hok,zB rfl];simp only[iTn];rw[ht]
  have e3:Go.Bu.takeS A.n A.S (m:Int) (a:Int)=A.S:=by unfold Go.Bu.takeS;rw[hok,zB rfl];simp only[iTn];rw[ht]
  rw[e1,e2];rw[e3]at hW;exact h0 ht σ' e hW
 | some x=>
  have e1:Go.Bu.takeE A.n A.S (m:Int) (a:Int)=0:=by unfold Go.Bu.takeE;rw[hok,zB rfl];simp only[iTn];rw[ht]
  have e2:Go.Bu.takeV A.n A.S (m:Int) (a:Int)=x:=by unfold Go.Bu.takeV;rw[hok,zB rfl];simp only[iTn];rw[ht]
  have e3:Go.Bu.takeS A.n A.S (m:Int) (a:Int)=Go.Bu.take A.S x (x+m):=by unfold Go.Bu.takeS;rw[hok,zB rfl];simp only[iTn];rw[ht]
  rw[e1,e2];rw[e3]at hW;exact h1 x ht (Go.Bu.take_in hbnd ht).1 σ' e hW
theorem Wkf {size:Nat}{A':AR}{sp':Sp}(h:VE A sp size=some (A',sp')):A'.n=A.n:=by
 unfold VE at h;split at h
 ·cases h
 ·cases h;rfl
def Fits (σ:Hp)(F H F' H':Rg):Prop:=(∀b,F' b->Grow F σ b)/\∀b,H' b->H b
theorem WiO (h:W2 σ F H Y A T sp){m a no:Nat}(h1:1<=m)(h2:m<=64)(ha:a=1\/a=2\/a=4\/a=8\/a=16)(hn1:1<=no)(hn2:no<=1000){R:Int->Int->Hp->Prop}
 (h0:(getA A sp m a no).1=none->∀σ',Ext (Both F H) σ σ'->W2 σ' F H Y (getA A sp m a no).2.1 T (getA A sp m a no).2.2->R 0 6 σ')
 (hR:∀x,(getA A sp m a no).1=some x->x+m<=A.n->∀σ' F' H',Fits σ F H F' H'->Ext (Both F H) σ σ'->W2 σ' F' H' Y (getA A sp m a no).2.1 T (getA A sp m a no).2.2->R (x:Int) 0 σ') :
 Yk.c (some ⟨Y.p,0,none⟩) (m:Int) (a:Int) (no:Int) σ R:=by
 refine Yk.o ?_;unfold Yk.v;have hok:=Wd9 h1 h2 ha;have es:∀{a b:Hp},Ext H a b->Ext (Both F H) a b:=λe=>e.sub λb hb=>.inr hb;have ea:∀{a b:Hp},Ext F a b->Ext (Both F H) a b:=λe=>e.sub λb hb=>.inl hb;have fin:∀(v:Hp) (x:Nat) (A1:AR) (sp1:Sp),Ext (Both F H) σ v->x+m<=A.n->W2 v F H Y {A1 with S:=Go.Bu.take A1.S x (x+m)} T sp1->getA A sp m a no=(some x,useA A1 x m no,sp1) →
  NilP (some ⟨Y.p,0,none⟩) λa50=>LdP (a50.add 3) v λt52=>Xq.c t52 (x:Int) (m:Int) v λt55 v2=>NilP (some ⟨Y.p,0,none⟩) λa57=>LdP (a57.add 4) v2 λt59=>XP.c t59 (x:Int) (m:Int) (no:Int) v2 λt63 v3=>R (x:Int) 0 v3:=by
  intro v x A1 sp1 e hxm hW hg;have hxl:x<=1000000:=by have:=h.a.lay.n2;omega
  refine nilP (hW.a.hd.rP rfl (hW.a.Use _ _ λv2 t2 e2 hA2=>?_));have hW2:=hW.arena e2 hA2;refine nilP (hW2.a.hd.rP rfl (hW2.a.Set x m hxl hn1 hn2 λv3 t3 e3 hA3=>?_));have hW3:=hW2.arenaG e3 hA3;refine hR x (by rw[hg]) hxm v3 (Grow F v2) (Cut H v2) ⟨λb hb=>?_,λb hb=>hb.1⟩ ((e.trans (ea e2)).trans (ea e3)) (by rw[hg];exact hW3);rcases hb with hb|hb
  ·exact .inl hb
  ·exact .inr (ze (e.trans (ea e2)).1 hb)
 refine nilP (h.a.hd.rP rfl (h.take hok (λht v e hW=>?_) λx ht hxn v e hW=>?_))
 ·refine Jn.intro (ifT rfl ?_);have hmx:(if(a:Int)>(m:Int)then(a:Int)else(m:Int))=((max m a:Nat):Int):=by
   by_cases hgt:(a:Int)>(m:Int)
   ·rw[zB hgt];omega
   ·rw[zA hgt];omega
  rw[hmx];refine Zw (a:=.i .i64) (λ(t:Int) w=>w=v/\(t=16\/t=32/\16<max m a\/t=64/\32<max m a)) (λt _=>100-t.toNat) ⟨rfl,.inl rfl⟩ ?_;rintro(t:Int) w ⟨rfl,hcase⟩;have ha16:a<=16:=by omega
  refine ifD (λhlt=>?_) λhge=>?_
  ·have:t=16\/t=32:=by omega
   rcases this with rfl|rfl
   ·exact ar (by omega) (by omega) ⟨⟨rfl,by omega⟩,by decide⟩
   ·exact ar (by omega) (by omega) ⟨⟨rfl,by omega⟩,by decide⟩
  ·have hup:t=((Qe (max m a):Nat):Int):=by
    unfold Qe;by_cases c1:max m a<=16
    ·rw[zB c1];omega
    ·rw[zA c1];by_cases c2:max m a<=32
     ·rw[zB c2];omega
     ·rw[zA c2];omega
   subst hup;have hsz:Qe (max m a)=16\/Qe (max m a)=32\/Qe (max m a)=64:=by omega
   refine WhU hW hsz (λhg σ' e' hW'=>?_) λA' sp' hg σ' e' hW'=>?_
   ·have hga:getA A sp m a no=(none,A,sp):=by unfold getA;rw[ht];simp only;rw[hg]
    exact ifT rfl (h0 (by rw[hga]) σ' ((ea e).trans e') (by rw[hga];exact hW'))
   ·refine ifF rfl (nilP (hW'.a.hd.rP rfl (hW'.take hok (λht2 v2 e2 hW2=>?_) λx ht2 hxn v2 e2 hW2=>?_)))
    ·have hga:getA A sp m a no=(none,A',sp'):=by unfold getA;rw[ht];simp only;rw[hg];simp only;rw[ht2]
     exact ifT rfl (h0 (by rw[hga]) v2 (((ea e).trans e').trans (ea e2)) (by rw[hga];exact hW2))
    ·have hga:getA A sp m a no=(some x,useA A' x m no,sp'):=by unfold getA;rw[ht];simp only;rw[hg];simp only;rw[ht2]
     exact ifF rfl (fin v2 x A' sp' (((ea e).trans e').trans (ea e2)) (by rw[←Wkf hg];exact hxn) hW2 hga)
 ·have hga:getA A sp m a no=(some x,useA A x m no,sp):=by unfold getA;rw[ht]
  refine Jn.intro (ifF rfl (ifF rfl (fin v x A sp (ea e) hxn hW hga)))
theorem Fits.refl:Fits σ F H F H:=⟨λb hb=>.inl hb,λb hb=>hb⟩
theorem W2.mono {F' H':Rg}(h:W2 σ F H Y A T sp)(hF:Off F')(hF2:∀b,b<σ.size->F b->F' b)(hH:∀b,H' b->H b)(hH2:∀b,b<σ.size->H b->H' b)(hd:∀b,F' b->¬H' b):W2 σ F' H' Y A T sp:=
 ⟨h.a.mono hF2,Lcl.mono SpH3.loc h.s hH2,hd,h.g,hF,h.o2.sub hH⟩
theorem Wit (h:W2 σ F H Y A T sp)(k:Int){R:Int->Hp->Prop}(hR:∀σ' F' H',Fits σ F H F' H'->Ext (Both F H) σ σ'->W2 σ' F' H' Y (growS A sp k).1 T (growS A sp k).2->R (QR A sp k) σ') :
 XM.c (some ⟨Y.p,0,none⟩) k σ R:=by
 refine XM.o ?_;unfold XM.v;refine Vd h.a k (λhk=>?_) λx hx hlt=>?_
 ·have e1:QR A sp k=1:=by unfold QR;rw[hk];rfl
  have e2:growS A sp k=(A,sp):=by unfold growS;rw[hk];rfl
  have:=hR σ F H Fits.refl (Ext.refl _ _) (by rw[e2];exact h);rw[e1]at this;exact ifT rfl this
 ·subst hx;have hk:A.ck (x:Int)=true:=by unfold AR.ck;simp;omega
  obtain⟨c,ss,q,t,r,hc,hss,hq,_,_,hok⟩:=h.a.at_ hlt;have ht2:=h.a.lay.tb2;obtain⟨_,_,_,hp1,hp4,_⟩:=hok;refine ifF rfl (nilP (h.a.hd.rS rfl (h.a.tabR (d:=1) hc (by omega) ?_)));simp only[zA (show ¬(1=0) by omega),zP];refine arN (m:=x+1) (by omega) (by omega) ?_;have eE:QR A sp x=match (getA A sp c.pages 1 (x+1)).1 with
   | some y=>UR c ss y
   | none=>6:=by unfold QR;rw[hk,zB rfl];simp only[iTn];rw[hc,hss];rfl
  have eS:growS A sp x=match getA A sp c.pages 1 (x+1)with
   | (some y,A',sp')=>(if UR c ss y=0 then{A' with cen:=A'.cen.set x (addS c ss y)}else A',sp')
   | (none,A',sp')=>(A',sp'):=by unfold growS;rw[hk,zB rfl];simp only[iTn];rw[hc,hss];rfl
  refine WiO (a:=1) h hp1 (by omega) (.inl rfl) (by omega) (by omega) (λhg σ' e hW=>?_) λy hg hyn σ' F' H' hfit e hW=>?_
  ·have:=hR σ' F H Fits.refl e;rw[eE,eS,hg]at this;generalize getA A sp c.pages 1 (x+1)=g at *;obtain⟨g1,g2,g3⟩:=g;simp only at hg;subst hg;exact ifT rfl (this hW)
  ·have hfr:(getA A sp c.pages 1 (x+1)).2.1.tb=A.tb/\(getA A sp c.pages 1 (x+1)).2.1.cen=A.cen:=by
    unfold getA;split
    ·exact⟨rfl,rfl⟩
    ·split
     ·exact⟨rfl,rfl⟩
     ·rename_i A1 sp1 hga;have:A1.tb=A.tb/\A1.cen=A.cen:=by
       unfold VE at hga;split at hga
       ·cases hga
       ·cases hga;exact⟨rfl,rfl⟩
      split
      ·exact this
      ·exact this
   have hRx:=λσ' F' H'=>hR σ' F' H';rw[eE,eS]at hRx;generalize getA A sp c.pages 1 (x+1)=g at *;obtain⟨g1,A',sp'⟩:=g;simp only at hg hW hfr hRx;subst hg;simp only at hRx;have hWc:=hW;obtain⟨G,hG,⟨ps,hC⟩,_,hput⟩:=hW.a.cenS hq (by rw[hfr.1];exact hc) (by rw[hfr.2];exact hss);have hn2:=h.a.lay.n2;refine ifF rfl (nilP (hW.a.hd.rS rfl (hW.a.crowR hq (Wkz hC (by omega) (λh9 v e2=>?_) λh0 v ps' e2 hC2=>?_))))
   ·have:=hRx v F' H' hfit (e.trans0 e2) (by rw[h9];exact hW.keep0 e2);rw[h9]at this;exact this
   ·have hA2:=hput v _ _ (Grow G σ') _ e2 (λb hb=>hb) hC2 (Uq hG λb hb=>hb);have hW2:=hW.arenaG (e2.sub hG) hA2;have:=hRx v (Grow F' σ') (Cut H' σ') ⟨λb hb=>?_,λb hb=>hfit.2 b hb.1⟩ (e.newT (e2.sub hG) λb hb=>?_) (by rw[h0];exact hW2)
    ·rw[h0]at this;exact this
    ·rcases hb with hb|hb
     ·exact hfit.1 b hb
     ·exact .inr (ze e.1 hb)
    ·rcases hfit.1 b hb with h1|h1
     ·exact .inl (.inl h1)
     ·exact .inr h1
theorem Ui (A:AR)(sp:Sp)(m a no:Nat):(getA A sp m a no).2.1.tb=A.tb/\(getA A sp m a no).2.1.cen=A.cen/\(getA A sp m a no).2.1.tra=A.tra/\(getA A sp m a no).2.1.room=A.room/\(getA A sp m a no).2.1.runs=A.runs/\(getA A sp m a no).2.1.n=A.n:=by
 unfold getA;split
 ·exact⟨rfl,rfl,rfl,rfl,rfl,rfl⟩
 ·split
  ·exact⟨rfl,rfl,rfl,rfl,rfl,rfl⟩
  ·rename_i A1 sp1 hga;have:A1.tb=A.tb/\A1.cen=A.cen/\A1.tra=A.tra/\A1.room=A.room/\A1.runs=A.runs/\A1.n=A.n:=by
    unfold VE at hga;split at hga
    ·cases hga
    ·cases hga;exact⟨rfl,rfl,rfl,rfl,rfl,rfl⟩
   split
   ·exact this
   ·exact this
theorem WlL:∀a:Nat,a<17->1<=a->((bits .and .i64 (a:Int) ((a:Int)-1) != 0) = !(a==1||(a==2||(a==4||(a==8||a==16))))):=by decide
theorem WaF (h:W2 σ F H Y A T sp)(m a:Int){R:Int->Int->Hp->Prop}(hR:∀σ' F' H',Fits σ F H F' H'->Ext (Both F H) σ σ'->W2 σ' F' H' Y (takeAS A sp m a).1 T (takeAS A sp m a).2->R ((Zt A sp m a:Nat):Int) (ZO A sp m a) σ') :
 WH.c (some ⟨Y.p,0,none⟩) m a σ R:=by
 refine WH.o ?_;unfold WH.v;have bad:Qo m a=false->R 0 1 σ:=λhk=>by
  have e1:ZO A sp m a=1:=by unfold ZO;rw[hk];rfl
  have e2:takeAS A sp m a=(A,sp):=by unfold takeAS;rw[hk];rfl
  have e3:Zt A sp m a=0:=by unfold Zt;rw[hk];rfl
  have:=hR σ F H Fits.refl (Ext.refl _ _) (by rw[e2];exact h);rw[e1,e3]at this;exact this
 have badR:¬(1<=m/\m<=64/\(a=1\/a=2\/a=4\/a=8\/a=16))->R 0 1 σ:=λhn=>bad (by
  rw[←zBJ];intro hp;unfold Qo at hp;simp at hp;omega)
 refine Vs h.a (ifF rfl (JnB.intro (ifD (λc1=>JnB.intro (ifT rfl (JnB.intro (ifT rfl (JnB.intro (ifT rfl (ifT rfl (badR (by omega))))))))) λc1=>?_)));refine JnB.intro (ifD (λc2=>JnB.intro (ifT rfl (JnB.intro (ifT rfl (ifT rfl (badR (by omega))))))) λc2=>?_);refine JnB.intro (ifD (λc3=>JnB.intro (ifT rfl (ifT rfl (badR (by omega))))) λc3=>?_);refine JnB.intro (ifD (λc4=>ifT rfl (badR (by omega))) λc4=>ar (by omega) (by omega) ?_);obtain⟨y,rfl⟩:=zi (show 0<=m by omega);obtain⟨z,rfl⟩:=zi (show 0<=a by omega);rw[WlL z (by omega) (by omega)];refine iff_ (λc5=>?_) λc5=>?_
 ·refine badR (λhh=>?_);simp at c5;omega
 ·have hz:z=1\/z=2\/z=4\/z=8\/z=16:=by
   simp at c5;omega
  have hk:Qo (y:Int) (z:Int)=true:=by
   unfold Qo;simp;omega
  have eE:ZO A sp y z=if(getA A sp y z 41).1.isSome then 0 else 6:=by unfold ZO;rw[hk,zB rfl];rfl
  have eV:Zt A sp y z=(getA A sp y z 41).1.getD 0:=by unfold Zt;rw[hk,zB rfl];rfl
  have eS:takeAS A sp y z=match getA A sp y z 41 with
   | (some x,A',sp')=>({A' with runs:=takeAS.mset2 A'.runs x y},sp')
   | (none,A',sp')=>(A',sp'):=by unfold takeAS;rw[hk,zB rfl];rfl
  refine WiO (no:=41) h (by omega) (by omega) hz (by omega) (by omega) (λhg σ' e hW=>?_) λx hg hyn σ' F' H' hfit e hW=>?_
  ·have:=hR σ' F H Fits.refl e;rw[eE,eS,eV,hg]at this;generalize getA A sp y z 41=g at *;obtain⟨g1,g2,g3⟩:=g;simp only at hg;subst hg;exact ifT rfl (this hW)
  ·have hRx:=λσ' F' H'=>hR σ' F' H';rw[eE,eS,eV]at hRx;generalize getA A sp y z 41=g at *;obtain⟨g1,A',sp'⟩:=g;simp only at hg hW hRx;subst hg;simp only at hRx;obtain⟨gr,hm,hput⟩:=hW.a.runsS;refine ifF rfl (nilP (hW.a.hd.rM rfl ⟨_,_,rfl,hm,λv ho hm'=>?_⟩));have hm2:MapL v Y.rn .i64 (.i .i64) (mset (runI A'.runs) (x:Int) (y:Int)):=hm';rw[Wif]at hm2;have hA2:=hput v _ ho hm2;have e2:Ext F' σ' v:=ho.ext.sub λb hb=>by subst hb;exact gr
   have hW2:=hW.arena e2 hA2;exact hRx v F' H' hfit (e.newT e2 λb hb=>by
    rcases hfit.1 b hb with h1|h1
    ·exact .inl (.inl h1)
    ·exact .inr h1) hW2
end Go.Ar
namespace Go.Proofs
open Go.Vc
set_option maxRecDepth 100000
end Go.Proofs
namespace Go.Ar
open Go Go.Vc Go.Proofs
variable {σ:Hp}{Q:Rg}{key:Nat->Nat}
end Go.Ar
namespace Go.Ar
open Go Go.Vc Go.Proofs
variable {σ:Hp}{F:Rg}{p q:Nat}{st:List Nat}
def WlO (st:List Nat):List Nat:=(List.range (st.length/16)).filter λh=>0<cntR st (16*h) (16*h+16) 2
end Go.Ar
namespace Go.Ar
open Go Go.Vc Go.Proofs
open Go.Bu (YT ZU YR cnt)
variable {σ:Hp}{F H:Rg}{p hs:Nat}{A:AR}{sp:Sp}{Y:Lay}{T:Nat->Hp->Rg->Prop}
theorem Wf5 {s:Sl}{l:List Nat}(h:SlR s 1 (ptrV l) σ F){k q:Nat}(hq:l[k]?=some q){K:Option Addr->Prop}(hK:K (some ⟨q,0,none⟩)):Ix s.a s.len (k:Int) 1 λa=>LdH (λm=>Ext0 σ m) .p a K:=by
 have hk:=(gSi.1 hq).1;obtain⟨b,o,ha,hcell⟩:=h.cell (j:=k) (v:=.pointer (some ⟨q,0,none⟩)) (by simp[ptrV,hq]);have hl:=h.1;simp[ptrV]at hl;rw[ha];refine ix (by omega) (by omega) ⟨_,λm hm=>?_,hK⟩;rw[add_lit,show o+(k:Int).toNat*1=o+k by omega,ZD hm (ZB hcell) id];exact hcell
theorem AHY.crowH (h:AHY σ F Y A T){k q:Nat}(hq:Y.cps[k]?=some q){K:Option Addr->Prop}(hK:K (some ⟨q,0,none⟩)):Ix Y.crow.a Y.crow.len (k:Int) 1 λa=>LdH (λm=>Ext0 σ m) .p a K:=by
 obtain⟨G,hG,hb⟩:=h.sep.get .crow;exact Wf5 (RowR.slR hb) hq hK
theorem AHY.trowH (h:AHY σ F Y A T){k q:Nat}(hq:Y.tps[k]?=some q){K:Option Addr->Prop}(hK:K (some ⟨q,0,none⟩)):Ix Y.trow.a Y.trow.len (k:Int) 1 λa=>LdH (λm=>Ext0 σ m) .p a K:=by
 obtain⟨G,hG,hb⟩:=h.sep.get .trow;exact Wf5 (RowR.slR hb) hq hK
theorem AHY.hdH (h:AHY σ F Y A T){i:Nat}{c:CK}{x:c.T}(hx:(hdV Y)[i]?=some (c.v x)){K:c.T->Prop}(hK:K x):LdH (λm=>Ext0 σ m) c (Addr.add ⟨Y.p,0,none⟩ i) K:=by
 refine⟨x,λm hm=>?_,hK⟩;rw[add_lit,(Ext.blk hm h.hd id).cell,zG];exact hx
theorem AHY.tra (h:AHY σ F Y A (traT A Y)){k q:Nat}{c:Cls}{t:TrA}(h1:Y.tps[k]?=some q)(h2:A.tb[k]?=some c)(h3:A.tra[k]?=some t):∃G:Rg,(∀b,G b->F b)/\TfH σ G q c.batch A.room t:=by
 obtain⟨G,hG,hi,_⟩:=h.traS h1 h2 h3;exact⟨G,hG,hi⟩
theorem Wjg {c:Cls}{s:Sl}{tb:List Cls}(h:SlR s 3 (tabV tb) σ F){k ty:Nat}(hc:tb[k]?=some c){K:Addr->Hp->Prop}(hK:∀v,Ext0 σ v->Blk v σ.size [.int .i64 (c.size:Int),.int .i64 (c.pages:Int),.int .i64 (c.batch:Int)]->K ⟨σ.size,0,none⟩ v) :
 Ix s.a s.len (k:Int) 3 λa31=>LdI .i64 (a31.add 0) σ λt32=>LdI .i64 (a31.add 1) σ λt321=>LdI .i64 (a31.add 2) σ λt322=>
  Nw (.cells #[.int .i64 0,.int .i64 0,.int .i64 0] ty (0,0)) σ λn14 v2=>St1 (n14.add 0) (.int .i64 t32) v2 λv3=>St1 (n14.add 1) (.int .i64 t321) v3 λv4=>St1 (n14.add 2) (.int .i64 t322) v4 λv5=>K n14 v5:=by
 have hg:=VX hc;have hk:=(gSi.1 hc).1;obtain⟨b,o,ha,c0⟩:=h.cell hg.1;obtain⟨b1,o1,ha1,c1⟩:=h.cell hg.2.1;obtain⟨b2,o2,ha2,c2⟩:=h.cell hg.2.2;rw[ha]at ha1 ha2;cases ha1;cases ha2;have hl:=h.1;rw[QE]at hl;rw[ha];refine ix (by omega) (by omega) ?_;rw[add_lit,show o+(k:Int).toNat*3=o+3*k by omega];refine ldI0 (by simpa using c0) (ldI0 (by rw[zBU];exact c1) (ldI0 (by rw[zBU];exact c2) ?_));refine nw (cs:=[.int .i64 0,.int .i64 0,.int .i64 0]) λv2 hz2 e2 b2=>b2.s1 (by simp) λv3 o3 b3=>b3.s1 (by simp) λv4 o4 b4=>b4.s1 (by simp) λv5 o5 b5=>?_;exact hK v5 (Ext.fresh (Ext.fresh (Ext.fresh e2 o3.ext λi hi=>by omega) o4.ext λi hi=>by omega) o5.ext λi hi=>by omega) b5
def part {α:Type}(f:Cls->α->Nat)(tb:List Cls)(l:List α)(i:Nat):Nat:=(((tb.zip l).take i).map λx=>f x.1 x.2).sum
theorem VS {α:Type}{f:Cls->α->Nat}{tb:List Cls}{l:List α}{i:Nat}{c:Cls}{x:α}(hc:tb[i]?=some c)(hx:l[i]?=some x):part f tb l (i+1)=part f tb l i+f c x:=by
 unfold part;have:(tb.zip l)[i]?=some (c,x):=by rw[List.getElem?_zip_eq_some];exact⟨hc,hx⟩
 rw[zr,this];simp
theorem Hi {α:Type}{f:Cls->α->Nat}{tb:List Cls}{l:List α}(h:l.length=tb.length):part f tb l tb.length=((tb.zip l).map λx=>f x.1 x.2).sum:=by
 unfold part;rw[zAZ (by rw[List.length_zip];omega)]
theorem WgE:∀{l:List (Int×Int)} {n x:Int},(l.map (·.1)).Nodup->(n,x)∈l->(l.map (·.2)).sum=x+((l.filter λy=>!(y.1==n)).map (·.2)).sum
 | [],_,_,_,h=>by simp at h
 | y::l,n,x,hn,h=>by
  simp only[zI,zm]at hn;rcases zX.1 h with h1|h1
  ·subst h1;have:l.filter (λy=>!(y.1==n))=l:=by
    rw[zBE];intro z hz;have:z.1≠n:=λe=>hn.1 (zC.2 ⟨z,hz,e⟩);simpa using this
   rw[zEL (by simp),this];simp
  ·have hne:y.1≠n:=λe=>hn.1 (zC.2 ⟨_,h1,e.symm⟩);rw[zEM (by simpa using hne)];simp only[zI,zp];rw[WgE hn.2 h1];omega
theorem WiB (l:List (Nat×Nat)):((runI l).map (·.2)).sum=(((l.map (·.2)).sum:Nat):Int):=by
 induction l with
 | nil=>rfl
 | cons x l ih=>
  have:runI (x::l)=((x.1:Int),(x.2:Int))::runI l:=rfl;rw[this];simp only[zI,zp];rw[ih];omega
theorem WcF (h:AHY σ F Y A (traT A Y))(hr:KZ A<=1000000){R:Int->Int->Int->Int->Int->Int->Hp->Prop}
 (hR:∀σ',Ext0 σ σ'->KV A<=40000000000/\HD A<=40000000000/\Ve A<=40000000000/\KU A<=40000000000->R (KV A:Nat) (HD A:Nat) (Ve A:Nat) (KU A:Nat) (KZ A:Nat) (cnt A.n A.S:Nat) σ'):XC.c (some ⟨Y.p,0,none⟩) σ R:=by
 refine XC.o ?_;unfold XC.v;have htl:=h.tabL;have ht2:=h.lay.tb2;refine Vs h (ifF rfl (nilP (h.hd.rS rfl ?_)));refine WlH (a:=.i .i64) (bb:=.i .i64) (c:=.i .i64) (d:=.i .i64) (e:=.i .i64) (λ(moved room tails spans t:Int) v=>∃i:Nat,t=(i:Int)/\i<=A.tb.length/\Ext0 σ v/\moved=(part (λc (t:TrA)=>t.bs.flatten.length*c.size) A.tb A.tra i:Nat)/\room=(part (λc ss=>Qx ss*c.size) A.tb A.cen i:Nat)/\tails=(part (λc (ss:List SpA)=>ss.length*c.tail) A.tb A.cen i:Nat)/\spans=(part (λc (ss:List SpA)=>ss.length*c.pages) A.tb A.cen i:Nat) ∧
  part (λc (t:TrA)=>t.bs.flatten.length*c.size) A.tb A.tra i<=i*1000000000/\part (λc ss=>Qx ss*c.size) A.tb A.cen i<=i*1000000000/\part (λc (ss:List SpA)=>ss.length*c.tail) A.tb A.cen i<=i*1000000000/\part (λc (ss:List SpA)=>ss.length*c.pages) A.tb A.cen i<=i*1000000000) (λ_ _ _ _ t _=>A.tb.length-t.toNat)
  ⟨0,rfl,by omega,Ext.refl _ _,by simp[part],by simp[part],by simp[part],by simp[part],by simp[part],by simp[part],by simp[part],by simp[part]⟩ ?_
 rintro moved room tails spans t v ⟨i,rfl,hi,e,rfl,rfl,rfl,rfl,b1,b2,b3,b4⟩;have hv:=h.keep0 e;refine ifD (λhlt=>?_) λhge=>?_
 ·have hi':i<A.tb.length:=by simp only at hlt;omega
  obtain⟨c,ss,q,t,r,hc,hss,hq,ht,hrr,hok⟩:=h.at_ hi';obtain⟨G,hG,htab⟩:=hv.sep.get .tab;refine Wjg htab hc λv5 e5 b5=>?_;have h5:=hv.keep0 e5;refine b5.rI rfl (b5.rI rfl (b5.rI rfl (WeJ hok λv6 e6=>?_)));have h6:=h5.keep0 e6;have b6:=e6.blk b5 id;obtain⟨G1,ps,_,hC⟩:=h6.cen hq hc hss;refine nilP (h6.hd.rS rfl (h6.crowR hq (Wh6 hC λs v7 e7 hrow=>?_)));have h7:=h6.keep0 e7;have b7:=e7.blk b6 id;have hsl:s.len=ss.length:=by have:=hrow.1;rw[WaS,zh]at this;omega
  refine⟨λm=>Ext0 v7 m,Ext.refl _ _,nilP (h7.hdH (c:=.s) (x:=Y.trow) rfl (h7.trowH hrr ⟨(c.size:Int),λm hm=>by rw[add_lit,(Ext.blk hm b7 id).cell];rfl,?_⟩))⟩;obtain⟨G2,_,hTf⟩:=h7.tra hrr hc ht;refine WjW hTf λs2 v8 e8 hl8 hrow8=>⟨e8,?_⟩;have h8:=h7.keep0 e8;have b8:=e8.blk b7 id;have hflat:=hTf.flat;have hroom:=hC.room;have hfew:=hC.few;obtain⟨hz1,hz2,_,hp1,hp2,_⟩:=hok;have hm1:t.bs.flatten.length*c.size<=1000000000:=ze (zo hflat hz2) (by omega);have hm2:Qx ss*c.size<=1000000000:=ze (zo hroom hz2) (by omega);have htail:c.tail<=1024:=by unfold Cls.tail;omega
  have hm3:ss.length*c.tail<=1000000000:=ze (zo hfew htail) (by omega);have hm4:ss.length*c.pages<=1000000000:=ze (zo hfew hp2) (by omega);have s1:=VS (f:=λc (t:TrA)=>t.bs.flatten.length*c.size) hc ht;have s2':=VS (f:=λc ss=>Qx ss*c.size) hc hss;have s3:=VS (f:=λc (ss:List SpA)=>ss.length*c.tail) hc hss;have s4:=VS (f:=λc (ss:List SpA)=>ss.length*c.pages) hc hss;refine arN (m:=t.bs.flatten.length*c.size) (by rw[hl8];simp) (by omega) (arN (m:=part (λc (t:TrA)=>t.bs.flatten.length*c.size) A.tb A.tra (i+1)) (by rw[s1];simp) (by rw[s1];omega) ?_);refine⟨λm=>Ext0 v8 m,Ext.refl _ _,nilP (h8.hdH (c:=.s) (x:=Y.crow) rfl (h8.crowH hq ⟨(c.size:Int),λm hm=>by rw[add_lit,(Ext.blk hm b8 id).cell];rfl,?_⟩))⟩;obtain⟨G3,ps3,_,hC8⟩:=h8.cen hq hc hss;refine WiS hC8 λv9 e9=>⟨e9,?_⟩;have b9:=e9.blk b8 id;refine arN (m:=Qx ss*c.size) (by simp) (by omega) (arN (m:=part (λc ss=>Qx ss*c.size) A.tb A.cen (i+1)) (by rw[s2'];simp) (by rw[s2'];omega) ?_);refine arN (m:=ss.length*c.tail) (by rw[hsl];simp) (by omega) (arN (m:=part (λc (ss:List SpA)=>ss.length*c.tail) A.tb A.cen (i+1)) (by rw[s3];simp) (by rw[s3];omega) ?_);refine b9.rI rfl (arN (m:=ss.length*c.pages) (by rw[hsl];simp) (by omega) (arN (m:=part (λc (ss:List SpA)=>ss.length*c.pages) A.tb A.cen (i+1)) (by rw[s4];simp) (by rw[s4];omega) ?_));refine arN (m:=i+1) (by omega) (by omega) ⟨⟨i+1,rfl,by omega,((((Ext.trans e e5).trans e6).trans e7).trans e8).trans e9,rfl,rfl,rfl,rfl,by rw[s1];omega,by rw[s2'];omega,by rw[s3];omega,by rw[s4];omega⟩,by omega⟩
 ·have:i=A.tb.length:=by simp only at hge;omega
  subst this;obtain⟨_,hm,_⟩:=hv.runsS;have hsum:=WiB A.runs;refine nilP (hv.hd.rM rfl (rng1 (c:=.i .i64) (a:=.i .i64) (x0:=(0:Int)) hm (λtodo (z:Int) w=>Ext0 v w/\(todo.map (·.1)).Nodup/\(∀y∈todo,0<=(y.2:Int))/\0<=z/\z+(todo.map (·.2)).sum=((KZ A:Nat):Int)) (λw hz ew=>⟨ew,hm.nodup,λy hy=>?_,by omega,?_⟩) (λz w hI=>?_) ?_))
  ·obtain⟨r,_,rfl⟩:=zC.1 hy;show(0:Int)<=(r.2:Int);omega
  ·rw[Int.zero_add];exact hsum
  ·obtain⟨ew,_,_,_,hz⟩:=hI;have hz':z=((KZ A:Nat):Int):=by simpa using hz
   subst hz';have hw:=hv.keep0 ew;obtain⟨sb,ms,hB,_⟩:=hw.free;refine nilP (hw.hd.rP rfl (Go.Bu.Free_ok hB ?_));rw[Hi h.lay.tra]at b1 ⊢;rw[Hi h.lay.cen]at b2 b3 b4 ⊢;rw[Hi h.lay.cen,Hi h.lay.cen];have hcM:KV A<=A.tb.length*1000000000:=b1;have hcR:HD A<=A.tb.length*1000000000:=b2;have hcT:Ve A<=A.tb.length*1000000000:=b3;have hcS:KU A<=A.tb.length*1000000000:=b4;exact hR w (Ext.trans e ew) ⟨by omega,by omega,by omega,by omega⟩
  ·rintro todo n (x:Int) (z:Int) w w' J ⟨ew,hn,hpos,hz0,hz⟩ hx ho hlt hJ;have hd:=WgE hn hx;have hxp:0<=x:=hpos _ hx;have hrest:0<=((todo.filter λy=>!(y.1==n)).map (·.2)).sum:=by
    have:∀l:List (Int×Int),(∀y∈l,0<=y.2)->0<=(l.map (·.2)).sum:=by
     intro l
     induction l with
     | nil=>intro _;simp
     | cons y l ih=>
      intro hl;have:=ih λu hu=>hl u (zBK _ hu);have:=hl y zCC;simp only[zI,zp];omega
    exact this _ λy hy=>hpos y (zH.1 hy).1
   have hz2:z+x+((todo.filter λy=>!(y.1==n)).map (·.2)).sum=((KZ A:Nat):Int):=by
    exact(Int.add_assoc z x _).trans ((congrArg (λ(u:Int)=>z+u) hd.symm).trans hz)
   have hxi:(0:Int)<=x:=hxp;have hup:z+x<=((KZ A:Nat):Int):=Int.le_trans (Int.le_add_of_nonneg_right hrest) (Int.le_of_eq hz2);have hlo:(0:Int)<=z+x:=Int.add_nonneg hz0 hxi;refine ar ?_ ?_ (hJ (z+x) w' rfl rfl ⟨Ext.fresh ew ho.ext λi hi=>by omega,?_,λy hy=>hpos y (zH.1 hy).1,?_,hz2⟩)
   ·show -9223372036854775808<=(z:Int)+(x:Int);omega
   ·show(z:Int)+(x:Int)<=9223372036854775807;omega
   ·exact List.Nodup.sublist (List.filter_sublist.map _) hn
   ·exact Int.add_nonneg hz0 hxi
end Go.Ar
namespace Go.Ar
open Go Go.Vc Go.Proofs
variable {σ:Hp}
theorem Waa:∀(xs:List (Int×Int×Int)),G9 xs=true↔∀(i:Nat) a b,xs[i]?=some a->xs[i+1]?=some b->a.1<b.1
 | []=>by simp[G9]
 | [x]=>by simp[G9]
 | x::y::l=>by
  have ih:=Waa (y::l);show(decide (x.1<y.1)&&G9 (y::l))=true↔_;rw[zF,ih,zN];constructor
  ·rintro⟨h1,h2⟩ i a b ha hb;cases i with
   | zero=>simp at ha hb;subst ha;subst hb;exact h1
   | succ i=>exact h2 i a b (by simpa using ha) (by simpa using hb)
  ·intro h;exact⟨h 0 x y rfl rfl,λi a b ha hb=>h (i+1) a b (by simpa using ha) (by simpa using hb)⟩
theorem Zi (xs:List (Int×Int×Int)):Zm xs=true↔1<=xs.length/\xs.length<=40/\(∀(i:Nat) t,xs[i]?=some t->QP t.1 t.2.1 t.2.2=true)/\∀(i:Nat) a b,xs[i]?=some a->xs[i+1]?=some b->a.1<b.1:=by
 unfold Zm;simp only[zF,zN,Waa,zw];constructor
 ·rintro⟨h1,h2,h3,h4⟩;exact⟨h1,h2,λi t ht=>h3 t (zE ht),h4⟩
 ·rintro⟨h1,h2,h3,h4⟩;exact⟨h1,h2,λt ht=>by obtain⟨i,hi⟩:=zL ht;exact h3 i t hi,h4⟩
theorem V4 {s:Sl}{xs:List (Int×Int×Int)}(ha:Acts σ s xs){R:Bool->Hp->Prop}(hR:∀σ',Ext0 σ σ'->R (Zm xs) σ'):Y5.c s σ R:=by
 refine Y5.o ?_;unfold Y5.v;have no:∀σ',Ext0 σ σ'->¬(1<=xs.length/\xs.length<=40/\(∀(i:Nat) t,xs[i]?=some t->QP t.1 t.2.1 t.2.2=true)/\∀(i:Nat) a b,xs[i]?=some a->xs[i+1]?=some b->a.1<b.1)->R false σ':=λσ' e hn=>by
  have:=hR σ' e;have hf:Zm xs=false:=by rw[←zBJ,Zi];exact hn
  rw[hf]at this;exact this
 have hlen:=ha.1;refine JnB.intro (ifD (λc1=>ifT rfl (no σ (Ext.refl _ _) λh=>by omega)) λc1=>?_);refine ifD (λc2=>no σ (Ext.refl _ _) λh=>by omega) λc2=>?_;refine Zw (a:=.i .i64) (λ(t:Int) v=>∃i:Nat,t=(i:Int)/\i<=xs.length/\Ext0 σ v/\(∀(j:Nat) t,j<i->xs[j]?=some t->QP t.1 t.2.1 t.2.2=true)/\∀(j:Nat) a b,j+1<i->xs[j]?=some a->xs[j+1]?=some b->a.1<b.1) (λt _=>xs.length-t.toNat)
  ⟨0,rfl,by omega,Ext.refl _ _,λj t h=>by omega,λj a b h=>by omega⟩ ?_
 rintro t v ⟨i,rfl,hi,e,h1,h2⟩;have hav:=Xb ha e;refine ifD (λhlt=>?_) λhge=>?_
 ·have hi':i<xs.length:=by omega
  have hx:xs[i]?=some xs[i]:=gGe hi';generalize xs[i]=r at hx;obtain⟨x,y,z⟩:=r;refine K0 hav hx ?_;refine nw (cs:=[.int .i64 0,.int .i64 0,.int .i64 0]) λv2 hz2 e2 b2=>b2.s1 (by simp) λv3 o3 b3=>b3.s1 (by simp) λv4 o4 b4=>b4.s1 (by simp) λv5 o5 b5=>?_;have e5:Ext0 v v5:=Ext.fresh (Ext.fresh (Ext.fresh e2 o3.ext λi hi=>by omega) o4.ext λi hi=>by omega) o5.ext λi hi=>by omega
  refine Jn.intro ⟨(· = v5),rfl,⟨x,λm hm=>by rw[hm,add_lit,b5.cell];rfl,⟨y,λm hm=>by rw[hm,add_lit,b5.cell];rfl,⟨z,λm hm=>by rw[hm,add_lit,b5.cell];rfl,?_⟩⟩⟩⟩;refine WfB x y z λv7 e7=>?_;have e07:=(Ext.trans e e5).trans e7;have bad:(QP x y z=false\/∃a,0<i/\xs[i-1]?=some a/\x<=a.1)->R false v7:=λhb=>no v7 e07 λhv=>by
   rcases hb with hb|⟨a,hp,hb1,hb2⟩
   ·have:=hv.2.2.1 i _ hx;simp only at this;rw[hb]at this;cases this
   ·have:=hv.2.2.2 (i-1) a (x,y,z) hb1 (by rw[show i-1+1=i by omega];exact hx);simp only at this;omega
  cases hc:QP x y z
  ·exact ifT rfl (ifT rfl (bad (.inl hc)))
  ·have next:(∀a,0<i->xs[i-1]?=some a->a.1<x)->Ar .i64 ((i:Int)+1) λt38=>(∃i:Nat,t38=(i:Int)/\i<=xs.length/\Ext0 σ v7/\(∀(j:Nat) t,j<i->xs[j]?=some t->QP t.1 t.2.1 t.2.2=true)/\∀(j:Nat) a b,j+1<i->xs[j]?=some a->xs[j+1]?=some b->a.1<b.1)/\xs.length-t38.toNat<xs.length-(i:Int).toNat:=by
    intro hp;refine arN (m:=i+1) (by omega) (by omega) ⟨⟨i+1,rfl,by omega,e07,λj t hj ht=>?_,λj a b hj hja hjb=>?_⟩,by omega⟩
    ·by_cases hji:j=i
     ·subst hji;rw[hx]at ht;cases ht;exact hc
     ·exact h1 j t (by omega) ht
    ·by_cases hji:j+1=i
     ·subst hji;rw[hx]at hjb;cases hjb;exact hp a (by omega) hja
     ·exact h2 j a b (by omega) hja hjb
   refine ifF rfl (ifD (λhp=>?_) λhp=>ifF rfl (next λa hp2=>by omega))
   have hxp:xs[i-1]?=some (xs[i-1]'(by omega)):=gGe _;generalize xs[i-1]'(by omega)=r at hxp;obtain⟨x',y',z'⟩:=r;have hav7:=Xb ha e07;obtain⟨b,o,g1,g2,g3,g4,g5⟩:=hav7.2 (i-1) x' y' z' hxp;have b7:=e7.blk b5 id;refine arN (m:=i-1) (by omega) (by omega) ?_;rw[g1];refine ix (by omega) (by omega) ?_;have g3':cell v7 ⟨b,o+(((i-1:Nat):Int)).toNat*3+0,none⟩=some (.int .i64 x'):=by simpa using g3
   have fin:If (decide (x<=x')) (R false v7) (Ar .i64 ((i:Int)+1) λt38=>(∃i:Nat,t38=(i:Int)/\i<=xs.length/\Ext0 σ v7/\(∀(j:Nat) t,j<i->xs[j]?=some t->QP t.1 t.2.1 t.2.2=true)/\∀(j:Nat) a b,j+1<i->xs[j]?=some a->xs[j+1]?=some b->a.1<b.1)/\xs.length-t38.toNat<xs.length-(i:Int).toNat):=by
    refine ifD (λhle=>bad (.inr ⟨_,by omega,hxp,hle⟩)) λhgt=>next λa _ ha2=>?_
    rw[hxp]at ha2;cases ha2;simp only;omega
   rw[add_lit b o];exact⟨b7.rI rfl (ldI0 g3' fin),ldI0 g3' (b7.rI rfl fin)⟩
 ·have:i=xs.length:=by omega
  subst this;have hv:Zm xs=true:=(Zi xs).2 ⟨by omega,by omega,λi t ht=>h1 i t (gSi.1 ht).1 ht,λi a b hja hjb=>h2 i a b (gSi.1 hjb).1 hja hjb⟩;have:=hR v e;rw[hv]at this;exact this
end Go.Ar
namespace Go.Ar
open Go Go.Vc Go.Proofs
open Go.Bu (YT ZU YR cnt)
variable {σ:Hp}{F H:Rg}{p hs:Nat}{A:AR}{sp:Sp}{Y:Lay}{T:Nat->Hp->Rg->Prop}
open Classical in
theorem _root_.Go.Vc.Sep.put {L:Type}{C C':L->Hp->Rg->Prop}{σ:Hp}{F G:Rg}(hC:∀i,Lcl (C i))(h:Sep C σ F)(i:L)(hd:∀b,G b->¬F b)(hj:∀j,j≠i->C' j=C j)(hi:C' i σ G)(hL:Lcl (C' i)):Sep C' σ λb=>F b\/G b:=by
 obtain⟨ρ,h⟩:=h;refine⟨λb=>if G b then i else ρ b,λj=>?_⟩
 by_cases hji:j=i
 ·subst hji;exact hL.mono hi λb _ hb=>⟨.inr hb,zB hb⟩
 ·rw[hj j hji];refine(hC j).mono (h j) λb _ hf=>⟨.inl hf.1,?_⟩;show(if G b then i else ρ b)=j
  rw[zA λhg=>hd b hg hf.1];exact hf.2
def ACh (A:AR)(Y:Lay)(T:Nat->Hp->Rg->Prop)(cs:List Value):Lb->Hp->Rg->Prop
 | .hd=>BlkR Y.p cs
 | i=>AC A Y T i
theorem ACh.loc {cs:List Value}(hT:∀k,Lcl (T k)):∀i,Lcl (ACh A Y T cs i)
 | .hd=>BlkR.loc _ _
 | .tab=>AC.loc (A:=A) (Y:=Y) hT .tab
 | .free=>AC.loc (A:=A) (Y:=Y) hT .free
 | .trk=>AC.loc (A:=A) (Y:=Y) hT .trk
 | .own=>AC.loc (A:=A) (Y:=Y) hT .own
 | .crow=>AC.loc (A:=A) (Y:=Y) hT .crow
 | .trow=>AC.loc (A:=A) (Y:=Y) hT .trow
 | .runs=>AC.loc (A:=A) (Y:=Y) hT .runs
 | .cen k=>AC.loc (A:=A) (Y:=Y) hT (.cen k)
 | .tra k=>AC.loc (A:=A) (Y:=Y) hT (.tra k)
theorem Wk8:ACh A Y T (hdV Y)=AC A Y T:=by
 funext i;cases i<;>rfl
theorem Wde {cs:List Value}(hT:∀k,Lcl (T k))(h:Sep (ACh A Y T cs) σ F)(hlen:A.cen.length<=Y.cps.length)(hl:Y.cps.length<=40){vb cp ty:Nat}(hb:Blk σ vb [.pointer (some ⟨cp,0,none⟩)])(hvb:¬F vb){K:Sl->Hp->Prop}
 (hK:∀s' σ',Ext F σ σ'->Sep (ACh A {Y with crow:=s',cps:=Y.cps++[cp]} T cs) σ' (Grow F σ)->K s' σ'):App Y.crow 1 8 ty [.pointer none] ⟨some ⟨vb,0,none⟩,1,1⟩ σ K:=by
 obtain⟨G,hG,hi,_,hput⟩:=h.stepD (ACh.loc hT) .crow;have hi:RowR Y.crow 1 (ptrV Y.cps) σ G:=hi;have hlc:Y.crow.len=Y.cps.length:=by have:=hi.1;simp[ptrV]at this;omega
 refine hi.app (ys:=[.pointer (some ⟨cp,0,none⟩)]) rfl rfl ?_ (by simp[one1]) (by simp only;omega) (by simp only;omega) zBA λs' σ' hl' e hr=>hK s' σ' (e.sub hG) ?_
 ·intro j u hu;rw[add_lit,zG,hb.cell];exact hu
 refine(Sep.loc (ACh.loc hT)).mono (hput σ' (ACh A {Y with crow:=s',cps:=Y.cps++[cp]} T cs) (Grow G σ) (λj hj=>?_) e (λb hb=>hb) ?_ (ACh.loc hT _)) λb _ hb=>Uq hG (λb hb=>hb) b hb
 ·cases j<;>first|rfl|exact absurd rfl hj|skip
  rename_i k;show CenR (Y.cps++[cp])[k]? A.tb[k]? A.cen[k]?=CenR Y.cps[k]? A.tb[k]? A.cen[k]?;rcases zAB k Y.cps.length with h1|h1
  ·rw[zd h1]
  ·have:A.cen[k]?=none:=zV (by omega);rw[this]
   funext σ F
   unfold CenR;cases(Y.cps++[cp])[k]?<;>cases Y.cps[k]?<;>cases A.tb[k]?<;>rfl
 ·show RowR s' 1 (ptrV (Y.cps++[cp])) σ' (Grow G σ);have:ptrV (Y.cps++[cp])=ptrV Y.cps++[.pointer (some ⟨cp,0,none⟩)]:=by simp[ptrV]
  rw[this];exact hr
theorem Wgj (hlen:A.tra.length<=Y.tps.length)(tp:Nat)(s':Sl):traT A {Y with trow:=s',tps:=Y.tps++[tp]}=traT A Y:=by
 funext k
 unfold traT;simp only;rcases zAB k Y.tps.length with h1|h1
 ·rw[zd h1]
 ·have:A.tra[k]?=none:=zV (by omega);rw[this]
  funext σ F
  unfold TraR;cases(Y.tps++[tp])[k]?<;>cases Y.tps[k]?<;>cases A.tb[k]?<;>rfl
theorem WdM {cs:List Value}(h:Sep (ACh A Y (traT A Y) cs) σ F)(hlen:A.tra.length<=Y.tps.length)(hl:Y.tps.length<=40){vb tp ty:Nat}(hb:Blk σ vb [.pointer (some ⟨tp,0,none⟩)])(hvb:¬F vb){K:Sl->Hp->Prop}
 (hK:∀s' σ',Ext F σ σ'->Sep (ACh A {Y with trow:=s',tps:=Y.tps++[tp]} (traT A {Y with trow:=s',tps:=Y.tps++[tp]}) cs) σ' (Grow F σ)->K s' σ'):App Y.trow 1 8 ty [.pointer none] ⟨some ⟨vb,0,none⟩,1,1⟩ σ K:=by
 have hT:∀k,Lcl (traT A Y k):=λk=>traT.loc k;obtain⟨G,hG,hi,_,hput⟩:=h.stepD (ACh.loc hT) .trow;have hi:RowR Y.trow 1 (ptrV Y.tps) σ G:=hi;have hlc:Y.trow.len=Y.tps.length:=by have:=hi.1;simp[ptrV]at this;omega
 refine hi.app (ys:=[.pointer (some ⟨tp,0,none⟩)]) rfl rfl ?_ (by simp[one1]) (by simp only;omega) (by simp only;omega) zBA λs' σ' hl' e hr=>hK s' σ' (e.sub hG) ?_
 ·intro j u hu;rw[add_lit,zG,hb.cell];exact hu
 rw[Wgj hlen];refine(Sep.loc (ACh.loc hT)).mono (hput σ' (ACh A {Y with trow:=s',tps:=Y.tps++[tp]} (traT A Y) cs) (Grow G σ) (λj hj=>?_) e (λb hb=>hb) ?_ (ACh.loc hT _)) λb _ hb=>Uq hG (λb hb=>hb) b hb
 ·cases j<;>first|rfl|exact absurd rfl hj
 ·show RowR s' 1 (ptrV (Y.tps++[tp])) σ' (Grow G σ);have:ptrV (Y.tps++[tp])=ptrV Y.tps++[.pointer (some ⟨tp,0,none⟩)]:=by simp[ptrV]
  rw[this];exact hr
theorem WkX {cs:List Value}(hT:∀k,Lcl (T k))(h:Sep (ACh A Y T cs) σ F){i:Nat}{v:Value}(hi:i<cs.length){K:Hp->Prop}(hK:∀σ',Ext F σ σ'->Sep (ACh A Y T (cs.set i v)) σ' F->K σ'):St1 (Addr.add ⟨Y.p,0,none⟩ i) v σ K:=by
 obtain⟨G,hG,hp,_,hput⟩:=h.stepD (ACh.loc hT) .hd;have hp:BlkR Y.p cs σ G:=hp;refine hp.2.s1 (by omega) λσ' o b=>hK σ' (o.ext.sub λb hb=>by subst hb;exact hG _ hp.1) ?_;rw[zG]at b;refine(Sep.loc (ACh.loc hT)).mono (hput σ' (ACh A Y T (cs.set i v)) G (λj hj=>?_) (o.ext.sub λb hb=>by subst hb;exact hp.1) (λb hb=>.inl hb) ⟨hp.1,b⟩ (ACh.loc hT _)) λb _ hb=>WaB hG (λb hb=>hb) b hb;cases j<;>first|rfl|exact absurd rfl hj
theorem hdCh {cs:List Value}(h:Sep (ACh A Y T cs) σ F):Blk σ Y.p cs/\F Y.p:=by
 obtain⟨G,hG,hp,hb⟩:=h.get .hd;exact⟨hb,hG _ hp⟩
theorem Wjj {cs:List Value}{i cp tp:Nat}{c:Cls}{ss:List SpA}{t:TrA}{ps:List (Nat×Nat)}{Gc Gt:Rg}(h:Sep (ACh A Y (traT A Y) cs) σ F)(hlc:A.cen.length=i)(hlt:A.tra.length=i)(hcp:Y.cps[i]?=some cp)(htp:Y.tps[i]?=some tp)(hc:A.tb[i]?=some c)
 (hC:CeH σ Gc cp c ps ss) (hTf:TfH σ Gt tp c.batch A.room t) (d1:∀b,Gc b->¬F b) (d2:∀b,Gt b->¬F b) (d3:∀b,Gc b->¬Gt b) :
 Sep (ACh {A with cen:=A.cen++[ss],tra:=A.tra++[t]} Y (traT {A with cen:=A.cen++[ss],tra:=A.tra++[t]} Y) cs) σ λb=>(F b\/Gc b)\/Gt b:=by
 have hT:∀k,Lcl (traT A Y k):=λk=>traT.loc k;have h1:Sep (ACh {A with cen:=A.cen++[ss]} Y (traT A Y) cs) σ λb=>F b\/Gc b:=by
  refine h.put (ACh.loc hT) (.cen i) d1 (λj hj=>?_) ?_ (ACh.loc hT _)
  ·cases j<;>first|rfl|skip
   rename_i k;have hne:k≠i:=λe=>hj (by rw[e]);show CenR Y.cps[k]? A.tb[k]? (A.cen++[ss])[k]?=CenR Y.cps[k]? A.tb[k]? A.cen[k]?;rcases zAB k i with h2|h2
   ·rw[zd (by omega)]
   ·have h3:(A.cen++[ss])[k]?=none:=zV (by rw[zJ,zFH];omega);have h4:A.cen[k]?=none:=zV (by omega);rw[h3,h4]
  ·show CenR Y.cps[i]? A.tb[i]? (A.cen++[ss])[i]? σ Gc;rw[hcp,hc,zk (by omega),hlc,zCD];exact⟨ps,hC⟩
 refine h1.put (ACh.loc hT) (.tra i) (λb hb hf=>?_) (λj hj=>?_) ?_ (ACh.loc (λk=>traT.loc k) _)
 ·rcases hf with hf|hf
  ·exact d2 b hb hf
  ·exact d3 b hf hb
 ·cases j<;>first|rfl|skip
  rename_i k;have hne:k≠i:=λe=>hj (by rw[e]);show TraR Y.tps[k]? A.tb[k]? A.room (A.tra++[t])[k]?=TraR Y.tps[k]? A.tb[k]? A.room A.tra[k]?;rcases zAB k i with h2|h2
  ·rw[zd (by omega)]
  ·have h3:(A.tra++[t])[k]?=none:=zV (by rw[zJ,zFH];omega);have h4:A.tra[k]?=none:=zV (by omega);rw[h3,h4]
 ·show TraR Y.tps[i]? A.tb[i]? A.room (A.tra++[t])[i]? σ Gt;rw[htp,hc,zk (by omega),hlt,zCD];exact hTf
open Classical in
noncomputable def Prt {L:Type}(C:L->Hp->Rg->Prop)(S:L->Prop)(i:L):Hp->Rg->Prop:=if S i then C i else WhY
theorem Prt.loc {L:Type}{C:L->Hp->Rg->Prop}{S:L->Prop}(hC:∀i,Lcl (C i))(i:L):Lcl (Prt C S i):=by
 unfold Prt;split
 ·exact hC i
 ·exact WhY.loc
theorem Prt.put {L:Type}{C:L->Hp->Rg->Prop}{S:L->Prop}{F G:Rg}(hC:∀i,Lcl (C i))(h:Sep (Prt C S) σ F)(i:L)(hd:∀b,G b->¬F b)(hi:C i σ G):Sep (Prt C λj=>S j\/j=i) σ λb=>F b\/G b:=by
 refine h.put (Prt.loc hC) i hd (λj hj=>?_) ?_ (Prt.loc hC i)
 ·unfold Prt;by_cases hS:S j
  ·rw[zB (.inl hS),zB hS]
  ·rw[zA (λh=>hS (h.resolve_right hj)),zA hS]
 ·unfold Prt;rw[zB (.inr rfl)];exact hi
theorem Prt.all {L:Type}{C:L->Hp->Rg->Prop}{S:L->Prop}{F:Rg}(h:Sep (Prt C S) σ F)(hS:∀i,S i):Sep C σ F:=by
 have:Prt C S=C:=by
  funext i;unfold Prt;rw[zB (hS i)]
 rw[this]at h;exact h
theorem Prt.one {L:Type}{C:L->Hp->Rg->Prop}(S:L->Prop)(l:L)(h:∀i,S i->C i σ λ_=>False):Sep (Prt C S) σ λ_=>False:=by
 refine⟨λ_=>l,λi=>?_⟩;have:(λ(b:Nat)=>False/\l=i)=λ_=>False:=by funext b;simp
 rw[this];unfold Prt;by_cases hS:S i
 ·rw[zB hS];exact h i hS
 ·rw[zA hS];trivial
theorem WdK {tb:List Cls}:∀v∈tabV tb,one1 v=true:=by
 intro v hv;simp only[tabV,zFI]at hv;obtain⟨c,_,hc⟩:=hv;simp at hc;rcases hc with rfl|rfl|rfl<;>rfl
theorem KP {s:Sl}{xs:List (Int×Int×Int)}(ha:Acts σ s xs)(hv:Zm xs=true){i:Nat}{c:Cls}(hc:(xs.map YC)[i]?=some c):xs[i]?=some ((c.size:Int),(c.pages:Int),(c.batch:Int))/\c.ok:=by
 rw[za,zBW]at hc;obtain⟨⟨x,y,z⟩,ht,rfl⟩:=hc;obtain⟨c,hok,he,hx,hy,hz⟩:=Hc (((Zi xs).1 hv).2.2.1 i _ ht);simp only at hx hy hz;rw[he,ht,hx,hy,hz];exact⟨rfl,hok⟩
theorem KN {s:Sl}{xs:List (Int×Int×Int)}(ha:Acts σ s xs)(hv:Zm xs=true){R:Sl->Hp->Prop}(hR:∀s' σ',Ext0 σ σ'->SlR s' 3 (tabV (xs.map YC)) σ' (λb=>σ.size<=b)->R s' σ'):Wc.c s σ R:=by
 refine Wc.o ?_;unfold Wc.v;have hva:=(Zi xs).1 hv;have hlen:=ha.1;have hl0:0<(xs.map YC).length:=by rw[zh];omega
 have h0:(xs.map YC)[0]?=some (xs.map YC)[0]:=gGe hl0;obtain⟨bb,oo,hsa,_⟩:=ha.2 0 _ _ _ (KP ha hv h0).1;refine ifF (by rw[hsa];rfl) (nw (cs:=[]) λv hvz e1 hb1=>?_);have hav:=Xb ha e1;refine(RowR.nil v (λb=>σ.size<=b) 3 (some ⟨σ.size,0,none⟩)).app (ys:=tabV (xs.map YC)) rfl (by rw[QE,zh];omega) ?_ WdK (by simp only;omega) (by simp only;omega) (by omega) λs' h' hl' e' ho'=>hR s' h' (Ext.fresh e1 e' λi hi=>hi) ?_
 ·rw[hsa];intro j u hu;have hjl:=(gSi.1 hu).1;rw[QE,zh]at hjl;have hi:j/3<(xs.map YC).length:=by rw[zh];omega
  have hc:(xs.map YC)[j/3]?=some (xs.map YC)[j/3]:=gGe hi;generalize (xs.map YC)[j/3]=c at hc;have hg:=VX hc;obtain⟨b,o,g1,_,g3,g4,g5⟩:=hav.2 (j/3) _ _ _ (KP ha hv hc).1;rw[hsa]at g1;cases g1;rw[add_lit];rcases(by omega:j=3*(j/3)\/j=3*(j/3)+1\/j=3*(j/3)+2)with hj|hj|hj
  ·rw[hj]at hu;rw[hg.1]at hu;cases hu;rw[show oo+j=oo+j/3*3 by omega];exact g3
  ·rw[hj]at hu;rw[hg.2.1]at hu;cases hu;rw[show oo+j=oo+j/3*3+1 by omega];exact g4
  ·rw[hj]at hu;rw[hg.2.2]at hu;cases hu;rw[show oo+j=oo+j/3*3+2 by omega];exact g5
 ·rw[zCK]at ho';refine(SlR.loc _ _ _).mono ho'.slR λb _ hg=>?_;rcases hg with h|h
  ·exact h
  ·omega
def newA (n room:Nat)(tb:List Cls):AR:={n:=n,room:=room,tb:=tb,S:=Go.Bu.emptyS,st:=List.replicate n 0,ow:=λ_=>0,cen:=List.replicate tb.length [],tra:=List.replicate tb.length ⟨0,[]⟩,runs:=[]}
def newP (n room:Nat)(tb:List Cls)(i:Nat):AR:={newA n room tb with cen:=List.replicate i [],tra:=List.replicate i ⟨0,[]⟩}
def newE (xs:List (Int×Int×Int))(n:Nat)(room:Int):Int:=if Zm xs then(if 32<=n/\n%16=0/\0<=room/\room<=8 then 0 else 1)else 2
def S0:Lb->Prop
 | .crow | .trow | .cen _ | .tra _=>True
 | _=>False
theorem WdA {i cp tp:Nat}{c:Cls}{ss:List SpA}{t:TrA}{ps:List (Nat×Nat)}{Gc Gt:Rg}{crow trow:Sl}(hpos:Y.cps.length=i/\Y.tps.length=i)
 (h:Sep (ACh A {Y with crow:=crow,trow:=trow,cps:=Y.cps++[cp],tps:=Y.tps++[tp]} (traT A {Y with crow:=crow,trow:=trow,cps:=Y.cps++[cp],tps:=Y.tps++[tp]}) (hdV Y)) σ F)
 (hlc:A.cen.length=i) (hlt:A.tra.length=i) (hc:A.tb[i]?=some c) (hC:CeH σ Gc cp c ps ss) (hTf:TfH σ Gt tp c.batch A.room t) (d1:∀b,Gc b->¬F b) (d2:∀b,Gt b->¬F b) (d3:∀b,Gc b->¬Gt b) {K:Hp->Prop}
 (hK:∀σ' Y',Ext F σ σ'->Y'.p=Y.p->Y'.hs=Y.hs->Y'.cps.length=i+1->Y'.tps.length=i+1->Sep (ACh {A with cen:=A.cen++[ss],tra:=A.tra++[t]} Y' (traT {A with cen:=A.cen++[ss],tra:=A.tra++[t]} Y') (hdV Y')) σ' (λb=>(F b\/Gc b)\/Gt b)->K σ') :
 NilP (some ⟨Y.p,0,none⟩) λa93=>St1 (a93.add 5) (.slice crow.a crow.len crow.cap) σ λv25=>NilP (some ⟨Y.p,0,none⟩) λa95=>St1 (a95.add 6) (.slice trow.a trow.len trow.cap) v25 K:=by
 have hT:∀k,Lcl (traT A {Y with crow:=crow,trow:=trow,cps:=Y.cps++[cp],tps:=Y.tps++[tp]} k):=λk=>traT.loc k;refine nilP (WkX (Y:={Y with crow:=crow,trow:=trow,cps:=Y.cps++[cp],tps:=Y.tps++[tp]}) hT h (i:=5) (by simp[hdV]) λv1 e1 h1=>nilP (WkX (Y:={Y with crow:=crow,trow:=trow,cps:=Y.cps++[cp],tps:=Y.tps++[tp]}) hT h1 (i:=6) (by simp[hdV]) λv2 e2 h2=>?_));have hC2:=(CeH.loc (c:=c) (ps:=ps) (ss:=ss) (p:=cp)).keep ((CeH.loc (c:=c) (ps:=ps) (ss:=ss) (p:=cp)).keep hC e1 λb _ hb hf=>d1 b hb hf) e2 λb _ hb hf=>d1 b hb hf;have hT2:=(TfH.loc (p:=tp) (batch:=c.batch) (room:=A.room) (t:=t)).keep ((TfH.loc (p:=tp) (batch:=c.batch) (room:=A.room) (t:=t)).keep hTf e1 λb _ hb hf=>d2 b hb hf) e2 λb _ hb hf=>d2 b hb hf;have h3:=Wjj (cp:=cp) (tp:=tp) h2 hlc hlt (by simp only;rw[zk (by omega),hpos.1,zCD];rfl) (by simp only;rw[zk (by omega),hpos.2,zCD];rfl) hc hC2 hT2 d1 d2 d3;exact hK v2 {Y with crow:=crow,trow:=trow,cps:=Y.cps++[cp],tps:=Y.tps++[tp]} (e1.trans e2) rfl rfl (by simp[hpos.1]) (by simp[hpos.2]) h3
theorem chs {cs:List Value}{σ':Hp}(hT:∀k,Lcl (T k))(h:Sep (ACh A Y T cs) σ F)(e:Ext0 σ σ'):Sep (ACh A Y T cs) σ' F:=(Sep.loc (ACh.loc hT)).keep0 h e
theorem Wlb {cs:List Value}(hT:∀k,Lcl (T k))(h:Sep (ACh A Y T cs) σ F):Sep (ACh A Y T cs) σ (Cut F σ):=(Sep.loc (ACh.loc hT)).cut h
theorem Wfi (n room:Nat)(tb:List Cls)(i:Nat):({newP n room tb i with cen:=(newP n room tb i).cen++[[]],tra:=(newP n room tb i).tra++[⟨0,[]⟩]}:AR)=newP n room tb (i+1):=by
 unfold newP;simp only[←zFR]
theorem Wh2 (n room:Nat)(tb:List Cls):newP n room tb tb.length=newA n room tb:=rfl
theorem WlB {i cp tp:Nat}{c:Cls}{ss:List SpA}{t:TrA}{ps:List (Nat×Nat)}{Gc Gt:Rg}{z:Nat}(hF:∀b,F b->z<=b/\b<σ.size)(hpos:Y.cps.length=i/\Y.tps.length=i)(hi:i<40)
 (h:Sep (ACh A Y (traT A Y) (hdV Y)) σ F) (hlc:A.cen.length=i) (hlt:A.tra.length=i) (hc:A.tb[i]?=some c) (hC:CeH σ Gc cp c ps ss) (hTf:TfH σ Gt tp c.batch A.room t) (d1:∀b,Gc b->¬F b/\z<=b/\b<σ.size) (d2:∀b,Gt b->¬F b/\z<=b/\b<σ.size) (d3:∀b,Gc b->¬Gt b) {J4:Hp->Prop}
 (hK:∀σ' Y',Ext F σ σ'->Y'.p=Y.p->Y'.hs=Y.hs->Y'.cps.length=i+1->Y'.tps.length=i+1->Sep (ACh {A with cen:=A.cen++[ss],tra:=A.tra++[t]} Y' (traT {A with cen:=A.cen++[ss],tra:=A.tra++[t]} Y') (hdV Y')) σ' (λb=>z<=b)->J4 σ') :
 Held σ λS=>NilP (some ⟨Y.p,0,none⟩) λa80=>LdH S .s (a80.add 5) λ(t82:Sl)=>NilP (some ⟨Y.p,0,none⟩) λa87=>LdH S .s (a87.add 6) λ(t89:Sl)=>
  (Nw (.cells #[.pointer (some ⟨cp,0,none⟩)] 178 (0,0)) σ λn84 v21=>And (S v21) <|
   (App t82 1 8 178 [.pointer none] ⟨some n84,1,1⟩ v21 λt85 v22=>And (S v22)<|Nw (.cells #[.pointer (some ⟨tp,0,none⟩)] 180 (0,0)) v22 λn91 v23=>And (S v23)<|App t89 1 8 180 [.pointer none] ⟨some n91,1,1⟩ v23 λt92 v24=>And (S v24) <|
   NilP (some ⟨Y.p,0,none⟩) λa93=>St1 (a93.add 5) (.slice t85.a t85.len t85.cap) v24 λv25=>NilP (some ⟨Y.p,0,none⟩) λa95=>St1 (a95.add 6) (.slice t92.a t92.len t92.cap) v25 λv26=>J4 v26) ∧
   (Nw (.cells #[.pointer (some ⟨tp,0,none⟩)] 180 (0,0)) v21 λn911 v27=>And (S v27)<|App t82 1 8 178 [.pointer none] ⟨some n84,1,1⟩ v27 λt851 v28=>And (S v28)<|App t89 1 8 180 [.pointer none] ⟨some n911,1,1⟩ v28 λt921 v29=>And (S v29) <|
   NilP (some ⟨Y.p,0,none⟩) λa931=>St1 (a931.add 5) (.slice t851.a t851.len t851.cap) v29 λv30=>NilP (some ⟨Y.p,0,none⟩) λa951=>St1 (a951.add 6) (.slice t921.a t921.len t921.cap) v30 λv31=>J4 v31)) ∧
  (Nw (.cells #[.pointer (some ⟨tp,0,none⟩)] 180 (0,0)) σ λn912 v32=>And (S v32)<|Nw (.cells #[.pointer (some ⟨cp,0,none⟩)] 178 (0,0)) v32 λn841 v33=>And (S v33) <|
  App t82 1 8 178 [.pointer none] ⟨some n841,1,1⟩ v33 λt852 v34=>And (S v34)<|App t89 1 8 180 [.pointer none] ⟨some n912,1,1⟩ v34 λt922 v35=>And (S v35) <|
  NilP (some ⟨Y.p,0,none⟩) λa932=>St1 (a932.add 5) (.slice t852.a t852.len t852.cap) v35 λv36=>NilP (some ⟨Y.p,0,none⟩) λa952=>St1 (a952.add 6) (.slice t922.a t922.len t922.cap) v36 λv37=>J4 v37):=by
 have hT:∀k,Lcl (traT A Y k):=λk=>traT.loc k;have hlC:=CeH.loc (c:=c) (ps:=ps) (ss:=ss) (p:=cp);have hlT:=TfH.loc (p:=tp) (batch:=c.batch) (room:=A.room) (t:=t);refine⟨λm=>Blk m Y.p (hdV Y),(hdCh h).1,nilP ⟨Y.crow,λm hm=>by rw[add_lit,hm.cell];rfl,nilP ⟨Y.trow,λm hm=>by rw[add_lit,hm.cell];rfl,?_⟩⟩⟩;have app2:∀(w:Hp) (F1:Rg) (b1 b2:Nat),Ext0 σ w->(∀b,F1 b->F b)->Sep (ACh A Y (traT A Y) (hdV Y)) w F1->Blk w b1 [.pointer (some ⟨cp,0,none⟩)]->Blk w b2 [.pointer (some ⟨tp,0,none⟩)]->σ.size<=b1->σ.size<=b2 →
  App Y.crow 1 8 178 [.pointer none] ⟨some ⟨b1,0,none⟩,1,1⟩ w λt85 v28=>And (Blk v28 Y.p (hdV Y))<|App Y.trow 1 8 180 [.pointer none] ⟨some ⟨b2,0,none⟩,1,1⟩ v28 λt92 v29=>And (Blk v29 Y.p (hdV Y)) <|
   NilP (some ⟨Y.p,0,none⟩) λa93=>St1 (a93.add 5) (.slice t85.a t85.len t85.cap) v29 λv30=>NilP (some ⟨Y.p,0,none⟩) λa95=>St1 (a95.add 6) (.slice t92.a t92.len t92.cap) v30 λv31=>J4 v31:=by
  intro w F1 b1 b2 ew hF1 hw hb1 hb2 hz1 hz2;have hFw:∀b,F1 b->z<=b/\b<σ.size:=λb hb=>hF b (hF1 b hb);have hsw:=ew.1;refine Wde hT hw (by omega) (by omega) hb1 (λhf=>by have:=hFw _ hf;omega) λs1 v28 e28 h28=>?_;have h28b:=(hdCh h28).1;have h28':Sep (ACh A {Y with crow:=s1,cps:=Y.cps++[cp]} (traT A {Y with crow:=s1,cps:=Y.cps++[cp]}) (hdV Y)) v28 (Grow F1 w):=h28;refine⟨h28b,?_⟩;have c28:Sep (ACh A {Y with crow:=s1,cps:=Y.cps++[cp]} (traT A {Y with crow:=s1,cps:=Y.cps++[cp]}) (hdV Y)) v28 (λb=>F1 b\/w.size<=b):=h28';have hb2':=e28.blk hb2 λhf=>by have:=hFw _ hf;omega
  have hb2lt:=hb2.lt;refine WdM c28 (by simp only;omega) (by simp only;omega) hb2' (λhf=>by
   rcases hf with hf|hf
   ·have:=hFw _ hf;omega
   ·omega) λs2 v29 e29 h29=>?_
  refine⟨(hdCh h29).1,?_⟩;have sub29:∀b,(F1 b\/w.size<=b)->F b\/σ.size<=b:=λb hb=>by
   rcases hb with hb|hb
   ·exact .inl (hF1 b hb)
   ·exact .inr (by omega)
  have eAll:Ext F σ v29:=((Ext0.to ew).trans (e28.sub hF1)).newT e29 sub29;have hC29:=hlC.keep hC eAll λb _ hb hf=>(d1 b hb).1 hf;have hT29:=hlT.keep hTf eAll λb _ hb hf=>(d2 b hb).1 hf;have hs28:=e28.1;refine WdA (F:=Grow (λb=>F1 b\/w.size<=b) v28) hpos h29 hlc hlt hc hC29 hT29 (λb hb hf=>?_) (λb hb hf=>?_) d3 λw2 Y' e2 p1 p2 p3 p4 h2=>?_
  ·have:=d1 b hb;rcases hf with(hf|hf)|hf
   ·exact this.1 (hF1 b hf)
   ·omega
   ·omega
  ·have:=d2 b hb;rcases hf with(hf|hf)|hf
   ·exact this.1 (hF1 b hf)
   ·omega
   ·omega
  ·refine hK w2 Y' (eAll.newT e2 λb hb=>?_) p1 p2 p3 p4 ((Sep.loc (ACh.loc (λk=>traT.loc k))).mono h2 λb _ hb=>?_)
   ·rcases hb with(hb|hb)|hb
    ·exact .inl (hF1 b hb)
    ·exact .inr (by omega)
    ·exact .inr (by omega)
   ·have hz0:z<=σ.size:=by have:=(d1 _ hC.fp);omega
    rcases hb with(((hb|hb)|hb)|hb)|hb
    ·exact(hFw b hb).1
    ·omega
    ·omega
    ·exact(d1 b hb).2.1
    ·exact(d2 b hb).2.1
 have S0:∀{w:Hp},Ext0 σ w->Blk w Y.p (hdV Y):=λe=>e.blk (hdCh h).1 id;refine⟨nw (cs:=[.pointer (some ⟨cp,0,none⟩)]) λv21 z21 e21 b21=>⟨S0 e21,?_,?_⟩,nw (cs:=[.pointer (some ⟨tp,0,none⟩)]) λv32 z32 e32 b32=>⟨S0 e32,nw (cs:=[.pointer (some ⟨cp,0,none⟩)]) λv33 z33 e33 b33=>⟨S0 (Ext.trans e32 e33),?_⟩⟩⟩
 ·-- row,box,row
  have h21:=chs hT h e21;refine Wde hT h21 (by omega) (by omega) b21 (λhf=>by have:=hF _ hf;omega) λs1 v22 e22 h22=>⟨(hdCh h22).1,?_⟩;have h22':Sep (ACh A {Y with crow:=s1,cps:=Y.cps++[cp]} (traT A {Y with crow:=s1,cps:=Y.cps++[cp]}) (hdV Y)) v22 (Grow F v21):=h22;have c22:=Wlb (λk=>traT.loc k) h22';refine nw (cs:=[.pointer (some ⟨tp,0,none⟩)]) λv23 z23 e23 b23=>?_;have h23:=chs (λk=>traT.loc k) c22 e23;refine⟨(hdCh h23).1,WdM h23 (by simp only;omega) (by simp only;omega) b23 (λhf=>by have:=hf.2;omega) λs2 v24 e24 h24=>⟨(hdCh h24).1,?_⟩⟩;have hs22:=e22.1;have hs23:=e23.1;have sub24:∀b,Cut (Grow F v21) v22 b->F b\/σ.size<=b:=λb hb=>by
   rcases hb.1 with h|h
   ·exact .inl h
   ·exact .inr (by omega)
  have eAll:Ext F σ v24:=((((Ext0.to e21).trans e22).trans0 e23)).newT e24 sub24;have hC24:=hlC.keep hC eAll λb _ hb hf=>(d1 b hb).1 hf;have hT24:=hlT.keep hTf eAll λb _ hb hf=>(d2 b hb).1 hf;refine WdA (F:=Grow (Cut (Grow F v21) v22) v23) hpos h24 hlc hlt hc hC24 hT24 (λb hb hf=>?_) (λb hb hf=>?_) d3 λw2 Y' e2 p1 p2 p3 p4 h2=>?_
  ·have:=d1 b hb;rcases hf with hf|hf
   ·rcases hf.1 with hf|hf
    ·exact this.1 hf
    ·omega
   ·omega
  ·have:=d2 b hb;rcases hf with hf|hf
   ·rcases hf.1 with hf|hf
    ·exact this.1 hf
    ·omega
   ·omega
  ·refine hK w2 Y' (eAll.newT e2 λb hb=>?_) p1 p2 p3 p4 ((Sep.loc (ACh.loc (λk=>traT.loc k))).mono h2 λb _ hb=>?_)
   ·rcases hb with hb|hb
    ·exact sub24 b hb
    ·exact .inr (by omega)
   ·have hz0:z<=σ.size:=by have:=(d1 _ hC.fp);omega
    rcases hb with((hb|hb)|hb)|hb
    ·rcases sub24 b hb with h|h
     ·exact(hF b h).1
     ·omega
    ·omega
    ·exact(d1 b hb).2.1
    ·exact(d2 b hb).2.1
 ·-- box,row,row
  refine nw (cs:=[.pointer (some ⟨tp,0,none⟩)]) λv27 z27 e27 b27=>⟨S0 (Ext.trans e21 e27),?_⟩;exact app2 v27 F σ.size v21.size (Ext.trans e21 e27) (λb hb=>hb) (chs hT (chs hT h e21) e27) (e27.blk b21 id) b27 (zD _) (by omega)
 ·exact app2 v33 F v32.size σ.size (Ext.trans e32 e33) (λb hb=>hb) (chs hT (chs hT h e32) e33) b33 (e33.blk b32 id) (by omega) (zD _)
theorem Wdc {P:Hp->Rg->Prop}(hl:Lcl P){a:Nat}(h:P σ λb=>a<=b):P σ λb=>a<=b/\b<σ.size:=hl.mono h λb hb hf=>⟨hf,hb⟩
theorem WkY {n room:Nat}{tb:List Cls}(h1:32<=n)(h2:n<=1024)(h3:n%16=0)(h4:room<=8)(h5:1<=tb.length)(h6:tb.length<=40)(h7:∀c∈tb,c.ok)(hc:Y.cps.length=tb.length)(ht:Y.tps.length=tb.length):LayOk (newA n room tb) Y:=
 ⟨hc,ht,by simp[newA],by simp[newA],h5,h6,h1,h2,h3,by simp[newA],h4,h7⟩
theorem Wi4 {s:Sl}{xs:List (Int×Int×Int)}(ha:Acts σ s xs)(hS:SpH3 σ H hs sp)(room:Int){R:Option Addr->Int->Hp->Prop}
 (h0:newE xs sp.st.length room≠0->∀σ',Ext0 σ σ'->R none (newE xs sp.st.length room) σ')
 (h1:newE xs sp.st.length room=0->∀σ' Y,Ext0 σ σ'->Y.hs=hs->AHY σ' (λb=>σ.size<=b) Y (newA sp.st.length room.toNat (xs.map YC)) (traT (newA sp.st.length room.toNat (xs.map YC)) Y)->R (some ⟨Y.p,0,none⟩) 0 σ') :
 Z8.c s (some ⟨hs,0,none⟩) room σ R:=by
 refine Z8.o ?_;unfold Z8.v;have hn2:sp.st.length<=1024:=by obtain⟨q,r,l,B,h⟩:=hS;exact h.n2
 refine V4 ha λv e=>?_;cases hv:Zm xs
 ·have e1:newE xs sp.st.length room=2:=by unfold newE;rw[hv];rfl
  have:=h0 (by rw[e1];decide) v e;rw[e1]at this;exact ifT rfl this
 have eE:newE xs sp.st.length room=if 32<=sp.st.length/\sp.st.length%16=0/\0<=room/\room<=8 then 0 else 1:=by unfold newE;rw[hv,zB rfl]
 refine ifF rfl (Wa1 (hS.keep0 e) ?_);have bad:¬(32<=sp.st.length/\sp.st.length%16=0/\0<=room/\room<=8)->R none 1 v:=λhn=>by
  rw[zA hn]at eE;have:=h0 (by rw[eE];decide) v e;rw[eE]at this;exact this
 have tm:(((sp.st.length:Nat):Int).tmod 16)=((sp.st.length%16:Nat):Int):=by rw[Qw (by omega)];simp
 refine JnB.intro (ifD (λc1=>JnB.intro (ifT rfl (JnB.intro (ifT rfl (ifT rfl (bad (by omega))))))) λc1=>nz (by decide) ?_);rw[tm,Wlx];refine JnB.intro (iff_ (λc2=>JnB.intro (ifT rfl (ifT rfl (bad (λh=>by have:=h.2.1;simp[this]at c2))))) λc2=>?_);have c2':sp.st.length%16=0:=by simpa using c2
 refine JnB.intro (ifD (λc3=>ifT rfl (bad (by omega))) λc3=>ifD (λc4=>bad (by omega)) λc4=>?_);obtain⟨rm,rfl⟩:=zi (show 0<=room by omega);rw[zB (by omega)]at eE;have h1:=h1 eE;simp only[iTn]at h1;have hva:=(Zi xs).1 hv;have hav:=Xb ha e;have hn1:32<=sp.st.length:=by omega
 generalize sp.st.length=n at *;have hlen:s.len=(xs.map YC).length:=by rw[zh];exact ha.1
 have hcl:∀{σ':Hp} {i:Nat} {c:Cls},Acts σ' s xs->(xs.map YC)[i]?=some c->xs[i]?=some ((c.size:Int),(c.pages:Int),(c.batch:Int))/\c.ok:=λh hc=>KP h hv hc;have htb1:1<=(xs.map YC).length/\(xs.map YC).length<=40:=by rw[zh];omega
 refine KN hav hv λtab v5 e5 htab=>Wjr λv6 op e6 hop hP=>WcO λv7 z7 e7 hm=>?_;generalize htbd:xs.map YC=tb at *;refine nw (cs:=[.slice tab.a tab.len tab.cap,.pointer (some ⟨hs,0,none⟩),.pointer none,.pointer none,.pointer (some ⟨op,0,none⟩),.slice none 0 0,.slice none 0 0,.map (some v6.size)]) λv8 z8 e8 b8=>?_;refine Go.Bu.New_ok _ (λhb=>absurd ⟨by omega,by omega⟩ hb) λn' hn' _ _ v9 sb ms e9 hB hfp=>?_;have hnn:n=n':=by omega
 subst hnn;have b9:=e9.blk b8 id;refine nilP (b9.s1 (by simp) λv10 o10 b10=>WjK (by omega) (by omega) c2' λv11 tp tq e11 htp htq hTk=>nilP ((e11.blk b10 id).s1 (by simp) λv12 o12 b12=>?_));have s5:=e5.1;have s6:=e6.1;have s9:=e9.1;have s10:=o10.1;have s11:=e11.1;have s12:=o12.1;have hb8:=b8.lt;have x9:Ext (· = v7.size) v9 v12:=(o10.ext.trans (Ext0.to e11)).trans o12.ext;have x5:Ext (· = v7.size) v5 v12:=(Ext0.to (Ext.trans (Ext.trans (Ext.trans e6 e7) e8) e9)).trans x9;have x6:Ext (· = v7.size) v6 v12:=(Ext0.to (Ext.trans (Ext.trans e7 e8) e9)).trans x9;have x7:Ext (· = v7.size) v7 v12:=(Ext0.to (Ext.trans e8 e9)).trans x9;have x11:Ext (· = v7.size) v11 v12:=o12.ext;have p1:=(SlR.loc _ _ _).keep (Wdc (SlR.loc _ _ _) htab) x5 λb _ hb hf=>by omega
 have p2:=(PmH.loc (p:=op) (ow:=λ_=>0)).keep (Wdc PmH.loc hP) x6 λb _ hb hf=>by omega
 have p3:MapL v12 v6.size .i64 (.i .i64) []:=x7.mapL (hm _ _) (by omega);have p5:Wcl v8.size n Go.Bu.emptyS v12 (λb=>v8.size<=b/\b<v9.size):=(Wcl.loc _ _ _).keep (Wdc (Wcl.loc _ _ _) ⟨sb,ms,hB,hfp⟩) x9 λb _ hb hf=>by omega
 have p6:TrkR tp (List.replicate n 0) v12 (λb=>v10.size<=b/\b<v11.size):=(TrkR.loc _ _).keep (Wdc (TrkR.loc _ _) ⟨tq,hTk,htp,htq⟩) x11 λb _ hb hf=>by omega
 let Y0:Lay:={p:=v7.size,hs:=hs,fr:=v8.size,tr:=tp,op:=op,rn:=v6.size,tab:=tab,crow:=⟨none,0,0⟩,trow:=⟨none,0,0⟩,cps:=[],tps:=[]}
 have b12':Blk v12 v7.size (hdV Y0):=b12
 let Cf:=ACh (newP n rm tb 0) Y0 (traT (newP n rm tb 0) Y0) (hdV Y0)
 have hCf:∀i,Lcl (Cf i):=ACh.loc λk=>traT.loc k;have q0:Sep (Prt Cf S0) v12 λ_=>False:=Prt.one S0 .hd λi hi=>by
  cases i<;>first|exact hi.elim|exact RowR.nil _ _ _ _|exact trivial
 have q1:=Prt.put hCf q0 .tab (G:=λb=>v.size<=b/\b<v5.size) (λb hb hf=>hf) p1;have q2:=Prt.put hCf q1 .own (G:=λb=>v5.size<=b/\b<v6.size) (λb hb hf=>by
  rcases hf with hf|hf
  ·exact hf
  ·omega) p2
 have q3:=Prt.put hCf q2 .runs (G:=λb=>b=v6.size) (λb hb hf=>by
  rcases hf with(hf|hf)|hf
  ·exact hf
  ·omega
  ·omega) ⟨rfl,p3⟩
 have q4:=Prt.put hCf q3 .hd (G:=λb=>b=v7.size) (λb hb hf=>by
  rcases hf with((hf|hf)|hf)|hf
  ·exact hf
  ·omega
  ·omega
  ·omega) ⟨rfl,b12'⟩
 have q5:=Prt.put hCf q4 .free (G:=λb=>v8.size<=b/\b<v9.size) (λb hb hf=>by
  rcases hf with(((hf|hf)|hf)|hf)|hf
  ·exact hf
  ·omega
  ·omega
  ·omega
  ·omega) p5
 have q6:=Prt.put hCf q5 .trk (G:=λb=>v10.size<=b/\b<v11.size) (λb hb hf=>by
  rcases hf with((((hf|hf)|hf)|hf)|hf)|hf
  ·exact hf
  ·omega
  ·omega
  ·omega
  ·omega
  ·omega) p6
 have q7:Sep Cf v12 λb=>v.size<=b:=by
  refine(Sep.loc hCf).mono (Prt.all q6 λi=>?_) λb _ hf=>?_
  ·cases i<;>simp[S0]
  ·rcases hf with(((((hf|hf)|hf)|hf)|hf)|hf)|hf
   ·exact hf.elim
   ·omega
   ·omega
   ·omega
   ·omega
   ·omega
   ·omega
 have e12:Ext0 v v12:=Ext.fresh e5 x5 λi hi=>by omega
 have szv:=e.1;refine Zw (a:=.i .i64) (λ(t:Int) w=>∃(i:Nat) (Y:Lay),t=(i:Int)/\i<=tb.length/\Y.p=v7.size/\Y.hs=hs/\Y.cps.length=i/\Y.tps.length=i/\Ext0 v w/\Sep (ACh (newP n rm tb i) Y (traT (newP n rm tb i) Y) (hdV Y)) w (λb=>v.size<=b)) (λt _=>tb.length-t.toNat)
  ⟨0,Y0,rfl,by omega,rfl,rfl,rfl,rfl,e12,q7⟩ ?_
 rintro t w ⟨i,Y,rfl,hi,hYp,hYh,hYc,hYt,ew,hsep⟩;refine ifD (λhlt=>?_) λhge=>?_
 ·have hi':i<tb.length:=by omega
  have hc:tb[i]?=some tb[i]:=gGe hi';generalize tb[i]=c at hc;have haw:=Xb hav ew;obtain⟨hxi,hok⟩:=hcl haw hc;refine K0 haw hxi ?_;refine nw (cs:=[.int .i64 0,.int .i64 0,.int .i64 0]) λv14 hz14 e14 b14=>b14.s1 (by simp) λv15 o15 b15=>b15.s1 (by simp) λv16 o16 b16=>b16.s1 (by simp) λv17 o17 b17=>?_;have e17:Ext0 w v17:=Ext.fresh (Ext.fresh (Ext.fresh e14 o15.ext λi hi=>by omega) o16.ext λi hi=>by omega) o17.ext λi hi=>by omega
  have b17':Blk v17 w.size [.int .i64 (c.size:Int),.int .i64 (c.pages:Int),.int .i64 (c.batch:Int)]:=b17;refine b17'.rI rfl (b17'.rI rfl (b17'.rI rfl (Wja hok λv18 cp e18 hcp1 hcp2 hCe=>?_)));have b18:=e18.blk b17' id;obtain⟨_,_,_,_,_,_,hbt1,hbt2⟩:=id hok;refine b18.rI rfl (Wkr hbt1 hbt2 (by omega) λv19 tp2 e19 htp1 htp2 hTf=>Jn.intro ?_);have s14:=e17.1;have s18:=e18.1;have s19:=e19.1;have sw:=ew.1;have hT:∀k,Lcl (traT (newP n rm tb i) Y k):=λk=>traT.loc k;have h19:=chs hT (chs hT (chs hT (Wlb hT hsep) e17) e18) e19;have hCe19:=hCe.keep0 e19;rw[←hYp];refine WlB (F:=Cut (λb=>v.size<=b) w) (z:=v.size) (ss:=[]) (t:=⟨0,[]⟩) (λb hb=>⟨hb.1,by have:=hb.2;omega⟩) ⟨hYc,hYt⟩ (by omega) h19 (by simp[newP]) (by simp[newP]) hc hCe19 hTf (λb hb=>?_) (λb hb=>?_) (λb hb hb2=>by omega) λw2 Y' e2 y1 y2 y3 y4 h2=>?_
  ·subst hb;exact⟨λhf=>by have:=hf.2;omega,by omega,by omega⟩
  ·subst hb;exact⟨λhf=>by have:=hf.2;omega,by omega,by omega⟩
  ·rw[Wfi]at h2;exact arN (m:=i+1) (by omega) (by omega) ⟨⟨i+1,Y',rfl,by omega,y1,y2.trans hYh,y3,y4,Ext.fresh (Ext.trans (Ext.trans (Ext.trans ew e17) e18) e19) e2 λb hb=>hb.1,h2⟩,by omega⟩
 ·have:i=tb.length:=by omega
  subst this;rw[Wh2,Wk8]at hsep;have hl:LayOk (newA n rm tb) Y:=WkY hn1 hn2 c2' (by omega) htb1.1 htb1.2 (λc hc=>by
   obtain⟨j,hj⟩:=zL hc;exact(hcl hav hj).2) hYc hYt
  have:=h1 w Y (Ext.trans e ew) hYh ⟨hl,λk=>traT.loc k,(Sep.loc (AC.loc λk=>traT.loc k)).mono hsep λb _ hb=>ze szv hb⟩;rw[hYp]at this;exact this
end Go.Ar
namespace Go.Vc
open Go
variable {σ:Hp}{F:Rg}{s:Sl}{sz:Nat}{xs:List Value}
def RowO (s:Sl)(sz:Nat)(xs:List Value):Hp->Rg->Prop:=λh F=>xs.length=s.len*sz/\(s.len=0/\s.cap=0\/∃b o cs,F b/\s.a=some ⟨b,o,none⟩/\Blk h b cs/\s.len<=s.cap/\cs.length=o+s.cap*sz/\(cs.drop o).take xs.length=xs)
theorem RowO.loc (s:Sl)(sz:Nat)(xs:List Value):Lcl (RowO s sz xs):=λσ σ' F G h hz hs=>by
 refine⟨h.1,h.2.imp id ?_⟩;rintro⟨b,o,cs,hq,ha,⟨e,he⟩,r⟩;have:=hs b (Blk.lt ⟨e,he⟩) hq;exact⟨b,o,cs,this.1,ha,⟨e,this.2.trans he⟩,r⟩
theorem RowO.nil (h:Hp)(F:Rg)(sz:Nat)(a:Option Addr):RowO ⟨a,0,0⟩ sz [] h F:=⟨by simp,.inl ⟨rfl,rfl⟩⟩
theorem RowR.o (h:RowR s sz xs σ F):RowO s sz xs σ F:=⟨h.1,h.2.imp id λ⟨b,cs,hq,ha,hb,hle,hcl,ht⟩=>⟨b,0,cs,hq,ha,hb,hle,by omega,by simpa using ht⟩⟩
theorem RowO.slR (h:RowO s sz xs σ F):SlR s sz xs σ F:=by
 refine⟨h.1,?_⟩;rcases h.2 with⟨hl,_⟩|⟨b,o,cs,hq,ha,hb,_,_,ht⟩
 ·left;have:=h.1;rw[hl]at this;simpa using this
 ·refine .inr ⟨b,o,cs,hq,ha,hb.q,λj hj=>?_⟩;rw[←ht,zg,zu,zB hj]
theorem RowO.cap (h:RowO s sz xs σ F):s.len<=s.cap:=by
 rcases h.2 with⟨q1,q2⟩|⟨_,_,_,_,_,_,q,_⟩
 ·omega
 ·exact q
theorem RowO.app {x:Sl}{bytes e:Nat}{zs ys:List Value}{K:Sl->Hp->Prop}(ho:RowO s sz xs σ F)(hz:zs.length=sz)
 (hy:ys.length=x.len*sz) (hr:Rd σ x.a ys) (h1:∀v∈ys,one1 v=true) (hb:(s.len+x.len)*bytes<=2^46) (hc:s.len+x.len<=2^62)
 (hx:0<x.len) (hK:∀s' h',s'.len=s.len+x.len->Ext F σ h'->RowO s' sz (xs++ys) h' (Grow F σ)->K s' h'):App s sz bytes e zs x σ K:=by
 refine⟨xs,ys,ho.1,hy,ho.slR.rd,hr,h1,hb,hc,λhin=>?_,λhout c hcc=>?_⟩
 ·rcases ho.2 with⟨hl,hcap⟩|⟨b,o,cs,hQ,ha,hk,hle,hcl,ht⟩
  ·omega
  ·rw[ha];simp only;rw[add_lit];have hm:(s.len+x.len)*sz<=s.cap*sz:=zAG _ hin;rw[zc]at hm;have hxl:=ho.1;refine KE hk (by omega) λh' ho' hb'=>hK _ h' rfl (Ext.of_only ho' hQ) ⟨?_,.inr ⟨b,o,_,.inl hQ,rfl,hb',hin,?_,?_⟩⟩
   ·simp[hxl,hy,zc]
   ·simp;omega
   ·rw[zJ,hxl,zt];have e1:(cs.take (o+s.len*sz)++ys++cs.drop (o+s.len*sz+ys.length)).drop o=(cs.drop o).take (s.len*sz)++(ys++cs.drop (o+s.len*sz+ys.length)):=by
     rw[zAC,List.drop_append_of_le_length (by rw[zY];omega),List.drop_take]
     congr 2;omega
    have ht':(cs.drop o).take (s.len*sz)=xs:=by rw[←hxl];exact ht
    rw[e1,ht',←zAC,zBM (by simp;omega),zAZ (by simp;omega)]
 ·refine hK _ _ rfl (Ext.push _ _ _) ⟨by simp[ho.1,hy,zc],.inr ⟨σ.size,0,xs++ys++(List.replicate (c-(s.len+x.len)) zs).flatten,.inr (zD _),rfl,⟨e,by simp⟩,hcc,?_,?_⟩⟩
  ·simp only[zJ,zDL,zCX,zDM,ho.1,hy,hz,←zc];rw[zG];congr 1;omega
  ·rw[List.drop_zero,zBM (by simp),zAZ (by simp)]
theorem RowO.app0 {x:Sl}{bytes e:Nat}{zs:List Value}{K:Sl->Hp->Prop}(ho:RowO s sz xs σ F)(hx:x.len=0)(hb:s.len*bytes<=2^46)(hc:s.len<=2^62)(hK:RowO ⟨s.a,s.len,s.cap⟩ sz xs σ F->K ⟨s.a,s.len,s.cap⟩ σ):App s sz bytes e zs x σ K:=by
 have hcap:=ho.cap;refine⟨xs,[],ho.1,by simp[hx],ho.slR.rd,by cases x.a<;>simp[Rd],by simp,by rw[hx];exact hb,by omega,λhin=>?_,λhout=>absurd (by omega) hout⟩
 rw[hx];have:=hK ho;cases ha:s.a<;>(rw[ha]at this;exact this)
theorem RowO.from (h:RowO s sz xs σ F){lo:Nat}(h1:lo<=s.len):RowO ⟨if s.cap=lo then s.a else s.a.map (·.add (lo*sz)),s.len-lo,s.cap-lo⟩ sz (xs.drop (lo*sz)) σ F:=by
 have hl:=h.1;refine⟨by rw[zz,hl,Nat.sub_mul],?_⟩;rcases h.2 with⟨q1,q2⟩|⟨b,o,cs,hq,ha,hb,hle,hcl,ht⟩
 ·left;simp only;omega
 ·by_cases hm:s.cap=lo
  ·left;simp only;omega
  ·refine .inr ⟨b,o+lo*sz,cs,hq,by simp only[zA hm,ha,zb,add_lit],hb,by simp only;omega,?_,?_⟩
   ·have:lo*sz<=s.cap*sz:=zAG _ (by omega);rw[hcl,Nat.sub_mul];omega
   ·rw[zz]
    conv=>rhs;rw[←ht]
    rw[List.drop_take,List.drop_drop]
end Go.Vc
namespace Go.Ar
open Go Go.Vc Go.Proofs
variable {σ:Hp}{F G:Rg}{Y:LayC}{tb:List Cls}{bud:Nat}{ls:List Li}{b k:Nat}{l:Li}{c:Cls}
theorem WjL {s:Sl}{xs:List (Int×Int×Int)}(ha:Acts σ s xs)(budget:Int){R:Option Addr->Int->Hp->Prop}(h0:Zm xs=false->∀σ',Ext0 σ σ'->R none 2 σ')
 (h1:Zm xs=true->¬(0<=budget/\budget<=65536)->∀σ',Ext0 σ σ'->R none 1 σ')
 (h2:Zm xs=true->0<=budget->budget<=65536->∀σ' Y,Ext0 σ σ'->CaY σ' (λq=>σ.size<=q) Y (xs.map YC) budget.toNat (List.replicate (xs.map YC).length liN)->R (some ⟨Y.p,0,none⟩) 0 σ') :
 Qc.c s budget σ R:=by
 refine Qc.o ?_;unfold Qc.v;refine V4 ha λv e=>?_;cases hv:Zm xs
 ·exact ifT rfl (h0 hv v e)
 refine ifF rfl (JnB.intro (ifD (λc1=>ifT rfl (h1 hv (by omega) v e)) λc1=>ifD (λc2=>h1 hv (by omega) v e) λc2=>?_));have hav:=Xb ha e;have hva:=(Zi xs).1 hv;refine KN hav hv λtab v1 e1 htab=>WcO λv2 z2 e2 hm=>nw (cs:=[.slice tab.a tab.len tab.cap,.int .i64 budget,.map (some v1.size)]) λv3 z3 e3 hb=>?_;have s1:=e1.1;have s0:=e.1;refine h2 hv (by omega) (by omega) v3 ⟨v2.size,v1.size,tab,[]⟩ (((e.trans e1).trans e2).trans e3) ⟨by rw[zh];omega,λc hc=>?_,by simp,by simp,?_⟩
 ·obtain⟨i,hi⟩:=zL hc;exact(KP hav hv hi).2
 ·refine⟨λq=>if q=v2.size then .hd else if q=v1.size then .mp else .tab,λi=>?_⟩
  cases i with
  | hd=>
   refine⟨⟨by show σ.size<=v2.size;omega,by simp⟩,?_⟩;have:((budget.toNat:Nat):Int)=budget:=by omega
   simp only[hdC,this];exact hb
  | mp=>
   refine⟨⟨by show σ.size<=v1.size;omega,?_⟩,e3.mapL (hm .i64 .p) id⟩;show(if v1.size=v2.size then LbC.hd else if v1.size=v1.size then LbC.mp else LbC.tab)=.mp
   rw[zA (by omega),zB rfl]
  | tab=>
   have h3:=(SlR.loc _ _ _).keep0 ((SlR.loc _ _ _).keep0 ((SlR.loc _ _ _).mono htab (G:=λq=>v.size<=q/\q<v1.size) λq hq hf=>⟨hf,hq⟩) e2) e3;refine(SlR.loc _ _ _).mono h3 λq _ hq=>⟨by omega,?_⟩;show(if q=v2.size then LbC.hd else if q=v1.size then LbC.mp else LbC.tab)=.tab
   rw[zA (by omega),zA (by omega)]
  | li k=>
   simp only[CC,LiK,lkp,List.find?_nil,Option.map_none];cases hk:(List.replicate (xs.map YC).length liN)[k]? with
   | none=>trivial
   | some l=>simp only[zAT]at hk;split at hk<;>simp_all
def sumK (f:Nat->Nat)(l:List (Int×Option Addr)):Nat:=(l.map λx=>f x.1.toNat).sum
theorem Wc4 (f:Nat->Nat):∀{l:List (Int×Option Addr)} {n:Int} {x:Option Addr},(l.map (·.1)).Nodup->(n,x)∈l->sumK f l=f n.toNat+sumK f (l.filter λy=>!(y.1==n))
 | [],_,_,_,h=>by simp at h
 | y::l,n,x,hn,h=>by
  simp only[zI,zm]at hn;rcases zX.1 h with h1|h1
  ·subst h1;have:l.filter (λy=>!(y.1==n))=l:=by
    rw[zBE];intro z hz;have:z.1≠n:=λe=>hn.1 (zC.2 ⟨z,hz,e⟩);simpa using this
   rw[zEL (by simp),this];simp[sumK]
  ·have hne:y.1≠n:=λe=>hn.1 (zC.2 ⟨_,h1,e.symm⟩);rw[zEM (by simpa using hne)];have:=Wc4 f hn.2 h1;simp only[sumK,zI,zp]at *;omega
theorem Wkb (n a v:Nat):((List.range n).map λj=>if j=a then v else 0).sum=if a<n then v else 0:=by
 induction n with
 | zero=>simp
 | succ n ih=>
  rw[zBD,zAD,zDR,ih];by_cases h:a=n
  ·subst h;simp
  ·by_cases h2:a<n
   ·rw[zB h2,zB (by omega)];simp[Ne.symm h]
   ·rw[zA h2,zA (by omega)];simp[Ne.symm h]
theorem WiY (l:List Nat)(f g:Nat->Nat):(l.map λj=>f j+g j).sum=(l.map f).sum+(l.map g).sum:=by
 induction l with
 | nil=>rfl
 | cons x l ih=>simp only[zI,zp,ih];omega
theorem Wdk (f:Nat->Nat)(n:Nat):∀(ps:List (Nat×Nat)),(ps.map (·.1)).Nodup->(∀x∈ps,x.1<n)->(ps.map λx=>f x.1).sum=((List.range n).map λj=>if j∈ps.map (·.1)then f j else 0).sum
 | [],_,_=>by
  have:((List.range n).map λj=>if j∈([]:List (Nat×Nat)).map (·.1)then f j else 0)=(List.range n).map λ_=>0:=by simp
  rw[this]
  induction n with
  | zero=>rfl
  | succ n ih=>rw[zBD,zAD,zDR];simp at *;exact ih
 | x::ps,hn,hl=>by
  simp only[zI,zm]at hn;have ih:=Wdk f n ps hn.2 λy hy=>hl y (by simp[hy]);rw[zI,zp,ih];have e:((List.range n).map λj=>if j∈(x::ps).map (·.1)then f j else 0)=(List.range n).map λj=>(if j=x.1 then f x.1 else 0)+(if j∈ps.map (·.1)then f j else 0):=by
   apply zy;intro j _;by_cases hj:j=x.1
   ·subst hj;rw[zB (by simp),zB rfl,zA hn.1];rfl
   ·rw[zA hj,zG];by_cases hm:j∈ps.map (·.1)
    ·rw[zB hm,zB (by simp only[zI,zX];exact .inr hm)]
    ·rw[zA hm,zA (by simp only[zI,zX,not_or];exact⟨hj,hm⟩)]
  rw[e,WiY,Wkb,zB (hl x (by simp))]
def byK (tb:List Cls)(ls:List Li)(k:Nat):Nat:=match tb[k]?,ls[k]? with
 | some c,some l=>c.size*l.os.length
 | _,_=>0
theorem HN:∀(tb:List Cls) (ls:List Li),ls.length=tb.length->ZI tb ls=((List.range tb.length).map (byK tb ls)).sum
 | [],[],_=>rfl
 | c::tb,l::ls,h=>by
  have ih:=HN tb ls (by simpa using h);simp only[ZI]at ih;simp only[ZI,zGH,zI,zp,zU,ih,zGF,zAJ];rfl
 | [],_::_,h=>by simp at h
 | _::_,[],h=>by simp at h
theorem CaY.nil (h:CaY σ F Y tb bud ls)(hf:lkp Y.ps k=none)(hl:ls[k]?=some l):l=liN:=by
 obtain⟨G,_,hi⟩:=h.sep.get (.li k);simp only[CC,LiK,hf,hl]at hi;exact hi
theorem CaY.keysN (h:CaY σ F Y tb bud ls):(Y.ps.map (·.1)).Nodup:=by
 have:=h.map.nodup;have e:(ptI Y.ps).map (·.1)=(Y.ps.map (·.1)).map λ(n:Nat)=>(n:Int):=by simp[ptI]
 rw[e]at this;exact List.Pairwise.of_map (λ(n:Nat)=>(n:Int)) (λa b hab e=>hab (by rw[e])) this
theorem CaY.bytes (h:CaY σ F Y tb bud ls):sumK (byK tb ls) (ptI Y.ps)=ZI tb ls:=by
 have e1:sumK (byK tb ls) (ptI Y.ps)=(Y.ps.map λx=>byK tb ls x.1).sum:=by simp[sumK,ptI,Function.comp_def]
 rw[e1,Wdk _ tb.length _ h.keysN h.keys,HN _ _ h.len]
 congr 1
 apply zy;intro j hj;have hj':=zW.1 hj;by_cases hm:j∈Y.ps.map (·.1)
 ·rw[zB hm]
 ·rw[zA hm];have hf:lkp Y.ps j=none:=by
   unfold lkp;simp only[zCM,zBI,zS];exact λx hx e=>hm (zC.2 ⟨x,hx,e⟩)
  have hl:ls[j]?=some (ls[j]'(by rw[h.len];exact hj')):=gGe _;have:=h.nil hf hl;unfold byK;rw[gGe hj',hl,this];rfl
theorem Wbe:∀(tb:List Cls) (ls:List Li),(∀c∈tb,c.ok)->(∀l∈ls,LiOk l)->ZI tb ls<=tb.length*131072
 | [],_,_,_=>by simp[ZI]
 | _::_,[],_,_=>by simp[ZI]
 | c::tb,l::ls,h1,h2=>by
  have ih:=Wbe tb ls (λc hc=>h1 c (by simp[hc])) (λl hl=>h2 l (by simp[hl]));simp only[ZI]at ih;simp only[ZI,zGH,zI,zp,zU];have hc:=h1 c (by simp);unfold Cls.ok at hc;have h3:=(h2 l (by simp)).many;have h4:c.size*l.os.length<=512*256:=zo (by omega) h3;omega
theorem Wbc (h:CaY σ F Y tb bud ls)(hok:∀l∈ls,LiOk l):ZI tb ls<=5242880:=by
 have h1:=Wbe tb ls h.ok hok;have h2:=h.tb1;omega
theorem CaY.lok (h:CaY σ F Y tb bud ls):∀l∈ls,LiOk l:=by
 intro l hl;obtain⟨k,hk⟩:=zL hl;cases hf:lkp Y.ps k with
 | none=>rw[h.nil hf hk];exact LiOk.nil
 | some b=>
  obtain⟨G,_,hL,_⟩:=h.liS hf hk;exact hL.2.1
theorem Wa3 (h:CaY σ F Y tb bud ls){R:Int->Hp->Prop}(hR:∀σ',Ext0 σ σ'->R ((ZI tb ls:Nat):Int) σ'):W6.c (some ⟨Y.p,0,none⟩) σ R:=by
 refine W6.o ?_;unfold W6.v;have hle:=Wbc h h.lok;have hT:=h.bytes;refine Ua h (ifF rfl (nilP (h.hd.rM rfl ?_)));refine rng1 (a:=.i .i64) h.map (λtodo (z:Int) v=>∃n:Nat,z=(n:Int)/\n+sumK (byK tb ls) todo=ZI tb ls/\(∀e∈todo,e∈ptI Y.ps)/\(todo.map (·.1)).Nodup/\Ext0 σ v) ?_ ?_ ?_
 ·intro v hz e;exact⟨0,rfl,by rw[hT];omega,λe he=>he,h.map.nodup,e⟩
 ·rintro z v ⟨n,rfl,hs,_,_,e⟩;simp only[sumK,zBX,List.sum_nil,zt]at hs;rw[hs];exact hR v e
 ·rintro todo n x z v v' J ⟨m,rfl,hs,hsub,hnd,e⟩ hx ho hlt hJ;have e':Ext0 σ v':=e.only ho (.inr (zD _));have h':=h.keep0 e';have hmem:=hsub _ hx;simp only[ptI,zC,Prod.mk.injEq]at hmem;obtain⟨⟨k,b⟩,hkb,hk1,hx1⟩:=hmem;simp only at hk1 hx1;subst hk1;subst hx1;have hk:=h.keys _ hkb;simp only at hk;have hc:tb[k]?=some tb[k]:=gGe hk;have hl:ls[k]?=some (ls[k]'(by rw[h.len];exact hk)):=gGe _;generalize tb[k]=c at hc;generalize (ls[k]'(by rw[h.len];exact hk))=l at hl;have hlk:lkp Y.ps k=some b:=WiL h.map.nodup hkb;obtain⟨G,hG,hL,_⟩:=h'.liS hlk hl;obtain⟨_,hok,s,hbk,hss,hcap⟩:=hL;have hsl:s.len=l.os.length:=by have:=hss.1;simp[Wt]at this;omega
  have hb:byK tb ls k=c.size*l.os.length:=by unfold byK;rw[hc,hl]
  have hdel:=Wc4 (byK tb ls) hnd hx;simp only[iTn]at hdel;refine nilP (h'.hd.rS rfl (HC h'.tabS hc (d:=0) (by omega) ?_));simp only[zP];refine nilP (hbk.rS rfl ?_);have hfin:m+c.size*l.os.length+sumK (byK tb ls) (List.filter (λy=>!(y.1==(k:Int))) todo)=ZI tb ls:=by
   have h3:=hdel;rw[hb]at h3;rw[←hs,h3,zBU]
  refine arN (m:=c.size*l.os.length) (by simp only[hsl];simp) (by omega) (arN (m:=m+c.size*l.os.length) (by omega) (by omega) (hJ _ v' rfl rfl ⟨_,rfl,hfin,λy hy=>hsub y (zH.1 hy).1,hnd.sublist (List.filter_sublist.map _),e'⟩))
theorem Wje (h:CaY σ F Y tb bud ls){R:Bool->Hp->Prop}(hR:∀σ',Ext0 σ σ'->R (decide (bud<ZI tb ls)) σ'):XX.c (some ⟨Y.p,0,none⟩) σ R:=by
 refine XX.o ?_;unfold XX.v;have e:decide (((ZI tb ls:Nat):Int)>(bud:Int))=decide (bud<ZI tb ls):=by rw[decide_eq_decide];omega
 refine Jn.intro (Ua h (ifT rfl (nilP ⟨Wa3 h λσ' e'=>(e'.blk h.hd id).rI rfl ?_,h.hd.rI rfl (Wa3 h λσ' e'=>?_)⟩)))
 ·rw[e];exact hR σ' e'
 ·rw[e];exact hR σ' e'
def Wjf (f:Cls->Li->List Int×Li)(fn:Nat):Prop:=∀{σ:Hp} {G:Rg} {b:Nat} {l:Li} {c:Cls},LiR b l σ G->c.ok->∀{R:Sl->Hp->Prop},
 (∀s z σ',Ext (· = b) σ σ'->σ.size<=z->RowR s 1 (Wt (f c l).1) σ' (λq=>σ.size<=q/\q<z)->LiR b (f c l).2 σ' (λq=>q=b\/z<=q)->R s σ') →
 VC Tryz.prog ⟨fn,#[],#[]⟩ [.pointer (some ⟨b,0,none⟩),.int .i64 (c.batch:Int)] [.one .s] σ R
theorem WfW:Wjf Zj 223:=by
 intro σ G b l c h hc R hR;refine WaN (all := #[.pointer (some ⟨b,0,none⟩),.int .i64 (c.batch:Int)]) (by kernel_rfl) (by simp) ?_;refine Yb.o ?_;unfold Yb.v;have hL:=h;obtain⟨_,hok,s,hbk,hss,hcap⟩:=h;have hsl:s.len=l.os.length:=by have:=hss.1;simp[Wt]at this;omega
 refine nilP (hbk.rS rfl ?_);simp only[hsl];exact UA hL (zD _) hR
theorem WhZ:Wjf QM 221:=by
 intro σ G b l c h hc R hR;refine WaN (all := #[.pointer (some ⟨b,0,none⟩),.int .i64 (c.batch:Int)]) (by kernel_rfl) (by simp) ?_;refine Xd.o ?_;unfold Xd.v;have hL:=h;obtain⟨_,hok,s,hbk,hss,hcap⟩:=h;have o1:=hok.low;have o2:=hok.many;have o3:=hok.lim;have hok':=WdQ hc hok;unfold Cls.ok at hc;refine nilP (hbk.rI rfl (arN (m:=l.low+1) (by omega) (by omega) (nz (by decide) (arN (m:=(l.low+1)/2) (by rw[YQ (by omega)];omega) (by omega) ?_))));refine UA hL (by omega) λout z v e hz hr hL1=>?_;have hL1':=hL1;obtain⟨_,ok1,s1,hb1,hs1,hc1⟩:=hL1;have hs1l:s1.len=(oldL ((l.low+1)/2) l).2.os.length:=by have:=hs1.1;simp[Wt]at this;omega
 refine Jn.intro ?_;have rest:∀(v1:Hp) (lim:Nat),Ext (· = b) v v1->lim=(if l.lim>c.batch then max (l.lim-c.batch) c.batch else l.lim)->Blk v1 b (liV s1 {(oldL ((l.low+1)/2) l).2 with lim:=lim}) →
  NilP (some ⟨b,0,none⟩) λa33=>LdS (a33.add 0) v1 λt35=>NilP (some ⟨b,0,none⟩) λa37=>St1 (a37.add 2) (.int .i64 ((t35.len:Nat):Int)) v1 λv2=>R out v2:=by
  intro v1 lim e1 hlim hbk1;refine nilP (hbk1.rS rfl (nilP (hbk1.s1 (by simp[liV]) λv2 o2 hb2=>?_)));have e2:=e1.trans o2.ext;have hbl:=hb1.lt;refine hR out z v2 (e.trans e2) hz ((RowR.loc _ _ _).keep hr e2 λq _ hq he=>?_) ?_
  ·have:=hbk.lt;omega
  ·refine⟨.inl rfl,hok',s1,?_,(SlR.loc _ _ _).keep hs1 e2 λq _ hq he=>hq.2 he,hc1⟩;simp only[hs1l]at hb2;subst hlim;exact hb2
 refine nilP (hb1.rI rfl ?_);refine ifD (λc1=>?_) λc1=>?_
 ·have c1':l.lim>c.batch:=by simp only[oldL]at c1;omega
  refine nilP (hb1.rI rfl (arN (m:=l.lim-c.batch) (by simp only[oldL];omega) (by omega) (nilP (hb1.s1 (by simp[liV]) λv1 o1 hbk1=>rest v1 (max (l.lim-c.batch) c.batch) o1.ext (by rw[zB c1']) ?_))));have:(if(c.batch:Int)>((l.lim-c.batch:Nat):Int)then(c.batch:Int)else((l.lim-c.batch:Nat):Int))=((max (l.lim-c.batch) c.batch:Nat):Int):=by split<;>omega
  rw[this]at hbk1;exact hbk1
 ·have c1':¬l.lim>c.batch:=by simp only[oldL]at c1;omega
  exact rest v l.lim (Ext.refl _ _) (by rw[zA c1']) hb1
def btV (x:Nat×Sl):List Value:=[.int .i64 (x.1:Int),.slice x.2.a x.2.len x.2.cap]
def btsV (l:List (Nat×Sl)):List Value:=l.flatMap btV
theorem QF (l:List (Nat×Sl)):(btsV l).length=l.length*2:=by
 induction l with
 | nil=>rfl
 | cons x l ih=>
  have e:btsV (x::l)=btV x++btsV l:=rfl;have e2:(btV x).length=2:=rfl;rw[e,zJ,ih,e2,zU];omega
theorem VJ (a b:List (Nat×Sl)):btsV (a++b)=btsV a++btsV b:=by simp[btsV]
theorem V3 {l:List (Nat×Sl)}:∀v∈btsV l,one1 v=true:=by
 intro v hv;obtain⟨p,_,hp⟩:=zFI.1 hv;simp only[btV,zX,List.not_mem_nil,or_false]at hp;rcases hp with rfl|rfl<;>rfl
theorem Whu {l:List (Nat×Sl)}{i:Nat}{p:Nat×Sl}(h:l[i]?=some p){d:Nat}(hd:d<2):(btsV l)[2*i+d]?=(btV p)[d]? := by
 induction l generalizing i with
 | nil=>simp at h
 | cons x l ih=>
  have e:btsV (x::l)=btV x++btsV l:=rfl;have e2:(btV x).length=2:=rfl;rw[e];cases i with
  | zero=>
   simp at h;subst h;rw[zd (by omega)];congr 1;omega
  | succ i=>
   rw[zk (by omega),e2,show 2*(i+1)+d-2=2*i+d by omega];exact ih (by simpa using h)
def BtO (ps:List (Nat×Sl))(bs:List Bt)(σ:Hp)(D:Rg):Prop:=ps.length=bs.length/\∀(i:Nat) p x,ps[i]?=some p->bs[i]?=some x->p.1=x.1/\SlR p.2 1 (Wt x.2) σ D/\p.2.len<=p.2.cap
theorem BtO.loc (ps:List (Nat×Sl))(bs:List Bt):Lcl (BtO ps bs):=λσ σ' F G h hz hs=>⟨h.1,λi p x h1 h2=>⟨(h.2 i p x h1 h2).1,SlR.loc _ _ _ _ _ _ _ (h.2 i p x h1 h2).2.1 hz hs,(h.2 i p x h1 h2).2.2⟩⟩
def Djp (ps:List (Nat×Sl)):Prop:=ps.Pairwise λp q=>∀a a',p.2.a=some a->q.2.a=some a'->a.block≠a'.block
theorem Djp.snoc {ps:List (Nat×Sl)}{bs:List Bt}{σ v:Hp}{D X:Rg}{s:Sl}{xs:List Int}(h:Djp ps)(hB:BtO ps bs σ D)(hne:∀x∈bs,x.2≠[])(hs:SlR s 1 (Wt xs) v X)(hx:xs≠[])(hd:∀b,b<σ.size->D b->¬X b)(k:Nat):Djp (ps++[(k,s)]):=by
 refine zBR.2 ⟨h,List.pairwise_singleton _ _,λp hp q hq=>?_⟩;rw[zR]at hq;subst hq;intro a a' h1 h2 e;obtain⟨i,hi⟩:=zL hp;have hil:=(gSi.1 hi).1;have hy:bs[i]?=some (bs[i]'(by rw[←hB.1];exact hil)):=gGe _;generalize (bs[i]'(by rw[←hB.1];exact hil))=y at hy;obtain⟨_,hs1,_⟩:=hB.2 i p y hi hy;have b1:=hs1.blk (by simpa[Wt]using hne y (zE hy)) ⟨a,h1,rfl⟩;have b2:=hs.blk (by simpa[Wt]using hx) ⟨a',h2,rfl⟩;rw[e]at b1;exact hd _ b1.2 b1.1 b2.1
def BtR (s:Sl)(bs:List Bt):Hp->Rg->Prop:=λσ F=>∃(ps:List (Nat×Sl)) (D:Rg),RowO s 2 (btsV ps) σ (λq=>F q/\¬D q)/\BtO ps bs σ D/\(∀q,D q->F q)/\Djp ps/\∀x∈bs,x.2≠[]
theorem BtR.loc (s:Sl)(bs:List Bt):Lcl (BtR s bs):=λσ σ' F G ⟨ps,D,hr,hB,hD,hj⟩ hz hs=>
 ⟨ps,λq=>D q/\q<σ.size,RowO.loc _ _ _ _ _ _ _ hr hz λq hq hf=>⟨⟨(hs q hq hf.1).1,λhd=>hf.2 hd.1⟩,(hs q hq hf.1).2⟩,BtO.loc _ _ _ _ _ _ hB hz λq hq hd=>⟨⟨hd,hq⟩,(hs q hq (hD q hd)).2⟩,λq hq=>(hs q hq.2 (hD q hq.1)).1,hj⟩
theorem BtR.nil (σ:Hp)(F:Rg)(a:Option Addr):BtR ⟨a,0,0⟩ [] σ F:=⟨[],λ_=>False,RowO.nil _ _ _ _,⟨rfl,λi p x h=>by simp at h⟩,λq h=>h.elim,List.Pairwise.nil,by simp⟩
theorem BtR.len {s:Sl}{bs:List Bt}(h:BtR s bs σ F):s.len=bs.length:=by
 obtain⟨ps,D,hr,hB,_⟩:=h;have:=hr.1;rw[QF]at this;have:=hB.1;omega
theorem BtR.cap {s:Sl}{bs:List Bt}(h:BtR s bs σ F):s.len<=s.cap:=by
 obtain⟨ps,D,hr,_⟩:=h;exact hr.cap
def Gi:Prop:=∀{σ:Hp} {F:Rg} {s:Sl} {xs:List (Nat×Sl)},RowR s 2 (btsV xs) σ F->(∀x∈xs,x.1<64)->xs.length<=1000->∀{R:Hp->Prop},
 (∀xs' σ',xs'.Perm xs->xs'.Pairwise (λa b=>a.1<=b.1)->Ext F σ σ'->RowR s 2 (btsV xs') σ' F->R σ')->Zn.c s ⟨262,#[],#[]⟩ σ R
theorem WiF:∀{a b:List Nat},a.Pairwise (· < ·)->b.Pairwise (· < ·)->(∀x,x∈a↔x∈b)->a=b
 | [],[],_,_,_=>rfl
 | [],y::b,_,_,h=>by have:=(h y).2 (by simp);simp at this
 | x::a,[],_,_,h=>by have:=(h x).1 (by simp);simp at this
 | x::a,y::b,ha,hb,h=>by
  rw[zBT]at ha hb;have e:x=y:=by
   rcases zX.1 ((h x).1 (by simp))with h1|h1
   ·exact h1
   ·rcases zX.1 ((h y).2 (by simp))with h2|h2
    ·exact h2.symm
    ·have:=ha.1 y h2;have:=hb.1 x h1;omega
  subst e
  congr 1
  refine WiF ha.2 hb.2 λz=>?_;have hz:=h z;simp only[zX]at hz;constructor
  ·intro hza;have:=ha.1 z hza;rcases hz.1 (.inr hza)with h1|h1
   ·omega
   ·exact h1
  ·intro hzb;have:=hb.1 z hzb;rcases hz.2 (.inr hzb)with h1|h1
   ·omega
   ·exact h1
theorem VR {f:Cls->Li->List Int×Li}{x:Bt}:x∈Qj f tb ls↔∃c l,tb[x.1]?=some c/\ls[x.1]?=some l/\x.2=(f c l).1/\x.2≠[]:=by
 unfold Qj;rw[zEC];constructor
 ·rintro⟨k,hk,h⟩;split at h
  ·rename_i c l hc hl;split at h
   ·cases h
   ·rename_i hne;cases h;exact⟨c,l,hc,hl,rfl,hne⟩
  ·cases h
 ·rintro⟨c,l,hc,hl,e,hne⟩;refine⟨x.1,zW.2 (gSi.1 hc).1,?_⟩;rw[hc,hl];simp only;rw[zA (by rw[←e];exact hne),←e]
theorem We7 {f:Cls->Li->List Int×Li}:((Qj f tb ls).map (·.1)).Pairwise (· < ·):=by
 unfold Qj;have key:∀(n:Nat),(((List.range n).filterMap λk=>match tb[k]?,ls[k]? with
  | some c,some l=>if(f c l).1=[]then none else some ((k,(f c l).1):Bt)
  | _,_=>none).map (·.1)).Pairwise (· < ·)/\∀x∈((List.range n).filterMap λk=>match tb[k]?,ls[k]? with
  | some c,some l=>if(f c l).1=[]then none else some ((k,(f c l).1):Bt)
  | _,_=>none),x.1<n:=by
  intro n
  induction n with
  | zero=>simp
  | succ n ih=>
   rw[zBD,zDG,zAD];refine⟨zBR.2 ⟨ih.1,?_,?_⟩,?_⟩
   ·simp only[zFU,List.filterMap_nil];split<;>simp
   ·intro a ha b hb;obtain⟨x,hx,rfl⟩:=zC.1 ha;obtain⟨y,hy,rfl⟩:=zC.1 hb;have h1:=ih.2 x hx;obtain⟨m,hm,hy2⟩:=zEC.1 hy;clear hy hb ha;simp only[zR]at hm;subst hm;split at hy2
    ·split at hy2
     ·cases hy2
     ·cases hy2;exact h1
    ·cases hy2
   ·intro x hx;rcases zM.1 hx with hx|hx
    ·have:=ih.2 x hx;omega
    ·obtain⟨m,hm,hy⟩:=zEC.1 hx;simp only[zR]at hm;subst hm;split at hy
     ·split at hy
      ·cases hy
      ·cases hy;omega
     ·cases hy
 exact(key tb.length).1
def inT (todo:List (Int×Option Addr))(k:Nat):Prop:=((k:Nat):Int)∈todo.map (·.1)
instance (todo:List (Int×Option Addr)) (k:Nat):Decidable (inT todo k):=by unfold inT;infer_instance
theorem UB {todo:List (Int×Option Addr)}{m k:Nat}:inT (todo.filter λy=>!(y.1==(m:Int))) k↔inT todo k/\k≠m:=by
 unfold inT;simp only[zC,zH,zAO,zAR];constructor
 ·rintro⟨y,⟨h1,h2⟩,h3⟩;exact⟨⟨y,h1,h3⟩,λe=>h2 (by omega)⟩
 ·rintro⟨⟨y,h1,h3⟩,h2⟩;exact⟨y,⟨h1,λe=>h2 (by omega)⟩,h3⟩
structure BtI (f:Cls->Li->List Int×Li) (tb:List Cls) (ls:List Li) (todo:List (Int×Option Addr)) (ls':List Li) (outs:List Bt):Prop where
 l:∀k c l,tb[k]?=some c->ls[k]?=some l->ls'[k]?=some (if inT todo k then l else(f c l).2)
 n:(outs.map (·.1)).Nodup
 o:∀x:Bt,x∈outs↔∃c l,tb[x.1]?=some c/\ls[x.1]?=some l/\¬inT todo x.1/\x.2=(f c l).1/\x.2≠[]
theorem BtI.step {f:Cls->Li->List Int×Li}{todo:List (Int×Option Addr)}{ls':List Li}{outs:List Bt}(h:BtI f tb ls todo ls' outs)(hc:tb[k]?=some c)(hl:ls[k]?=some l)(hk:inT todo k) :
 BtI f tb ls (todo.filter λy=>!(y.1==(k:Int))) (ls'.set k (f c l).2) (if(f c l).1=[]then outs else outs++[(k,(f c l).1)]):=by
 have hlk:=h.l k c l hc hl;have hlt:=(gSi.1 hlk).1;have hno:∀x∈outs,x.1≠k:=λx hx e=>by
  obtain⟨_,_,_,_,h3,_⟩:=(h.o x).1 hx;rw[e]at h3;exact h3 hk
 refine⟨λj d m hd hm=>?_,?_,λx=>?_⟩
 ·by_cases hj:j=k
  ·subst hj;rw[hc]at hd;cases hd;rw[hl]at hm;cases hm;rw[zK hlt,zA (by rw[UB];exact λhx=>hx.2 rfl)]
  ·rw[zf (Ne.symm hj),h.l j d m hd hm]
   congr 1
   by_cases hi:inT todo j
   ·rw[zB hi,zB (UB.2 ⟨hi,hj⟩)]
   ·rw[zA hi,zA λhx=>hi (UB.1 hx).1]
 ·split
  ·exact h.n
  ·rw[zAD,zAY];refine⟨h.n,by simp,λa ha b hb e=>?_⟩;simp only[zI,zBX,zR]at hb;subst hb;obtain⟨x,hx,e2⟩:=zC.1 ha;exact hno x hx (e2.trans e)
 ·have old:(∃d m,tb[x.1]?=some d/\ls[x.1]?=some m/\¬inT (todo.filter λy=>!(y.1==(k:Int))) x.1/\x.2=(f d m).1/\x.2≠[])↔x∈outs\/(x=(k,(f c l).1)/\(f c l).1≠[]):=by
   constructor
   ·rintro⟨d,m,hd,hm,hi,e,hne⟩;by_cases hj:x.1=k
    ·right;rw[hj]at hd hm;rw[hc]at hd;cases hd;rw[hl]at hm;cases hm;exact⟨Prod.ext hj e,by rw[←e];exact hne⟩
    ·left;exact(h.o x).2 ⟨d,m,hd,hm,λhx=>hi (UB.2 ⟨hx,hj⟩),e,hne⟩
   ·rintro(hx|⟨rfl,hne⟩)
    ·obtain⟨d,m,hd,hm,hi,e,hne⟩:=(h.o x).1 hx;exact⟨d,m,hd,hm,λhy=>hi (UB.1 hy).1,e,hne⟩
    ·exact⟨c,l,hc,hl,λhy=>(UB.1 hy).2 rfl,rfl,hne⟩
  rw[old];split
  ·rename_i he;constructor
   ·exact .inl
   ·rintro(hx|⟨_,hne⟩)
    ·exact hx
    ·exact absurd he hne
  ·rename_i he;rw[zM,zR];constructor
   ·rintro(hx|hx)
    ·exact .inl hx
    ·exact .inr ⟨hx,he⟩
   ·rintro(hx|hx)
    ·exact .inl hx
    ·exact .inr hx.1
set_option maxRecDepth 4000 in
theorem Wac (hso:Gi){f:Cls->Li->List Int×Li}{fn:Nat}(hf:Wjf f fn)(hnil:∀c,c.ok->f c liN=([],liN))(h:CaY σ F Y tb bud ls){R:Sl->Hp->Prop}
 (hR:∀σ' s (Q:Rg),Ext F σ σ'->(∀q,Q q->σ.size<=q)->CaY σ' (λq=>Grow F σ q/\¬Q q) Y tb bud (Qi f tb ls)->BtR s (Qj f tb ls) σ' Q->R s σ') :
 W5.c (some ⟨Y.p,0,none⟩) ⟨fn,#[],#[]⟩ σ R:=by
 refine W5.o ?_;unfold W5.v;refine Ua h (ifF rfl (nilP (h.hd.rM rfl ?_)));have htb:=h.tb1;refine rng1 (a:=.s) h.map (λtodo (out:Sl) v=>∃(ls':List Li) (outs:List Bt) (Q D:Rg) (ps:List (Nat×Sl)),Ext F σ v/\(∀q,Q q->σ.size<q)/\CaY v (λq=>(Cut F σ q\/σ.size<q)/\¬Q q) Y tb bud ls' ∧
  RowR out 2 (btsV ps) v (λq=>Q q/\¬D q)/\BtO ps outs v D/\(∀q,D q->Q q)/\BtI f tb ls todo ls' outs/\(∀e∈todo,e∈ptI Y.ps)/\(todo.map (·.1)).Nodup/\Djp ps) ?_ ?_ ?_
 ·intro v hz e;refine⟨ls,[],λ_=>False,λ_=>False,[],Ext0.to e,λq hq=>hq.elim,((CaY.loc.keep0 h.cut e).mono λq _ hq=>⟨.inl hq,id⟩),RowR.nil _ _ _ _,⟨rfl,λi p x hp=>by simp at hp⟩,λq hq=>hq.elim,⟨λk c l hc hl=>?_,by simp,λx=>?_⟩,λe he=>he,h.map.nodup,List.Pairwise.nil⟩
  ·by_cases hi:inT (ptI Y.ps) k
   ·rw[zB hi,hl]
   ·rw[zA hi];have hf0:lkp Y.ps k=none:=by
     unfold lkp;simp only[zCM,zBI,zS];exact λx hx e=>hi (zC.2 ⟨((x.1:Int),some ⟨x.2,0,none⟩),zC.2 ⟨x,hx,rfl⟩,by rw[e]⟩)
    have:=h.nil hf0 hl;rw[hl,this,hnil c (h.ok c (zE hc))]
  ·simp only[List.not_mem_nil,false_iff];rintro⟨c,l,hc,hl,hi,e,hne⟩;have hf0:lkp Y.ps x.1=none:=by
    unfold lkp;simp only[zCM,zBI,zS];exact λy hy e=>hi (zC.2 ⟨((y.1:Int),some ⟨y.2,0,none⟩),zC.2 ⟨y,hy,rfl⟩,by rw[e]⟩)
   have:=h.nil hf0 hl;rw[this,hnil c (h.ok c (zE hc))]at e;exact hne e
 ·rintro out v ⟨ls',outs,Q,D,ps,e,hQ,hC,hrow,hB,hD,hI,_,_,hj⟩;have hno:∀k,¬inT [] k:=λk hk=>by simp[inT]at hk
  have hls:ls'=Qi f tb ls:=by
   apply zn;intro k;by_cases hk:k<tb.length
   ·have hc:tb[k]?=some tb[k]:=gGe hk;have hl:ls[k]?=some (ls[k]'(by rw[h.len];exact hk)):=gGe _;rw[hI.l k _ _ hc hl,zA (hno k)];simp[Qi,zGI,hc,hl]
   ·rw[zV (by rw[hC.len];omega),zV (by simp[Qi,h.len];omega)]
  subst hls;have hk1:∀(i:Nat) p,ps[i]?=some p->∃x,outs[i]?=some x/\p.1=x.1/\SlR p.2 1 (Wt x.2) v D/\p.2.len<=p.2.cap:=λi p hp=>by
   have hi:=(gSi.1 hp).1;have hx:outs[i]?=some (outs[i]'(by rw[←hB.1];exact hi)):=gGe _;exact⟨_,hx,hB.2 i p _ hp hx⟩
  have hkeys:ps.map (·.1)=outs.map (·.1):=by
   apply zn;intro i;simp only[za];cases hp:ps[i]? with
   | none=>
    have:outs[i]?=none:=by
     rw[List.getElem?_eq_none_iff]at hp ⊢;rw[←hB.1];exact hp
    rw[this];rfl
   | some p=>
    obtain⟨x,hx,e1,_⟩:=hk1 i p hp;rw[hx];simp[e1]
  have hbound:∀x∈outs,x.1<40:=λx hx=>by
   obtain⟨c,l,hc,_⟩:=(hI.o x).1 hx;have:=(gSi.1 hc).1;omega
  have hlen:ps.length<=40:=by
   have hn:=hI.n;rw[←hkeys]at hn;have:=hn.length_le_of_subset (l₂:=List.range 40) λj hj=>by
    rw[hkeys]at hj;obtain⟨x,hx,rfl⟩:=zC.1 hj;exact zW.2 (hbound x hx)
   simpa using this
  refine hso hrow (λp hp=>?_) (by omega) λps' v' hperm hsort e' hrow'=>?_
  ·have:p.1∈outs.map (·.1):=by rw[←hkeys];exact zC.2 ⟨p,hp,rfl⟩
   obtain⟨x,hx,e1⟩:=zC.1 this;have:=hbound x hx;omega
  ·have hnd:(ps'.map (·.1)).Nodup:=(hperm.map _).nodup_iff.2 (by rw[hkeys];exact hI.n);have hinc:(ps'.map (·.1)).Pairwise (· < ·):=by
    refine List.Pairwise.map (R:=λa b:Nat×Sl=>a.1<b.1) _ (λa b hab=>hab) ?_;have h1:ps'.Pairwise λa b=>a.1≠b.1:=zCB.1 hnd;exact(hsort.and h1).imp λ{a b} hab=>by have:=hab.1;have:=hab.2;omega
   have hkk:ps'.map (·.1)=(Qj f tb ls).map (·.1):=by
    refine WiF hinc We7 λj=>?_;rw[(hperm.map _).mem_iff,hkeys];constructor
    ·intro hj;obtain⟨x,hx,rfl⟩:=zC.1 hj;obtain⟨c,l,hc,hl,_,e1,e2⟩:=(hI.o x).1 hx;exact zC.2 ⟨x,VR.2 ⟨c,l,hc,hl,e1,e2⟩,rfl⟩
    ·intro hj;obtain⟨x,hx,rfl⟩:=zC.1 hj;obtain⟨c,l,hc,hl,e1,e2⟩:=VR.1 hx;exact zC.2 ⟨x,(hI.o x).2 ⟨c,l,hc,hl,hno _,e1,e2⟩,rfl⟩
   have eQ:Ext F σ v':=e.newT e' λq hq=>.inr (zCF (hQ q hq.1));refine hR v' out Q eQ (λq hq=>zCF (hQ q hq)) ?_ ⟨ps',D,hrow'.o,⟨?_,λi p x hp hx=>?_⟩,hD,(hperm.pairwise_iff λ{a b} hab x y h1 h2 e=>hab y x h2 h1 e.symm).2 hj,λx hx=>by
    obtain⟨_,_,_,_,_,h2⟩:=VR.1 hx;exact h2⟩
   ·refine(CaY.loc.keep hC e' λq _ hq hq2=>hq.2 hq2.1).mono λq _ hq=>⟨?_,hq.2⟩;rcases hq.1 with hx|hx
    ·exact .inl hx.1
    ·exact .inr (zCF hx)
   ·have:=congrArg List.length hkk;simpa using this
   ·have e1:p.1=x.1:=by
     have:=congrArg (λl=>l[i]?) hkk;simp only[za,hp,hx,zb,Option.some.injEq]at this;exact this
    obtain⟨j,hj⟩:=zL (hperm.mem_iff.1 (zE hp));obtain⟨y,hy,e2,hs,hcap⟩:=hk1 j p hj;have e3:x.2=y.2:=by
     obtain⟨c,l,hc,hl,_,h1,_⟩:=(hI.o y).1 (zE hy);obtain⟨c',l',hc',hl',h2,_⟩:=VR.1 (zE hx);rw[←e1,e2,hc]at hc';cases hc';rw[←e1,e2,hl]at hl';cases hl';rw[h1,h2]
    rw[e3];exact⟨e1,(SlR.loc _ _ _).keep hs e' λq _ hq hq2=>hq2.2 hq,hcap⟩
 ·rintro todo n x out v v' J ⟨ls',outs,Q,D,ps,e,hQ,hC,hrow,hB,hD,hI,hsub,hnd,hj⟩ hx ho hlt hJ;have e1:Ext F σ v':=e.only ho (.inr (zD _));have hC1:CaY v' (λq=>(Cut F σ q\/σ.size<q)/\¬Q q) Y tb bud ls':=CaY.loc.keep hC ho.ext λq _ hq he=>by
   rcases hq.1 with h1|h1
   ·have:=h1.2;omega
   ·omega
  have hrow1:RowR out 2 (btsV ps) v' (λq=>(Q q/\¬D q)/\q<v'.size):=(RowR.loc _ _ _).cut ((RowR.loc _ _ _).keep hrow ho.ext λq _ hq he=>by have:=hQ q hq.1;omega);have hB1:BtO ps outs v' (λq=>D q/\q<v'.size):=(BtO.loc _ _).cut ((BtO.loc _ _).keep hB ho.ext λq _ hq he=>by have:=hQ q (hD q hq);omega);have hmem:=hsub _ hx;simp only[ptI,zC,Prod.mk.injEq]at hmem;obtain⟨⟨k,b⟩,hkb,hk1,hx1⟩:=hmem;simp only at hk1 hx1;subst hk1;subst hx1;have hk:=h.keys _ hkb;simp only at hk;have hc:tb[k]?=some tb[k]:=gGe hk;have hl:ls[k]?=some (ls[k]'(by rw[h.len];exact hk)):=gGe _;generalize tb[k]=c at hc;generalize (ls[k]'(by rw[h.len];exact hk))=l at hl;have hcok:=h.ok c (zE hc);have hlk:lkp Y.ps k=some b:=WiL h.map.nodup hkb;have hin:inT todo k:=zC.2 ⟨_,hx,rfl⟩;have hl':ls'[k]?=some l:=by rw[hI.l k c l hc hl,zB hin]
  have hstep:=hI.step hc hl hin;have hmF:(λq=>(Cut F σ q\/σ.size<q)/\¬Q q) Y.m:=by
   obtain⟨H,hH,hm⟩:=hC1.sep.get .mp;exact hH _ hm.1
  obtain⟨G,hG,hL,hGm,hput⟩:=hC1.liS hlk hl';have hbF:=hG b hL.1;have hbm:b≠Y.m:=λe=>hGm (e▸hL.1);have hbs:b≠σ.size:=λe=>by
   subst e;rcases hbF.1 with h1|h1
   ·have:=h1.2;omega
   ·omega
  have hblt:b<v'.size:=by obtain⟨_,_,s,hbk,_⟩:=hL;exact hbk.lt
  have hsz1:=ho.1;refine nilP (hC1.hd.rS rfl (HC hC1.tabS hc (d:=2) (by omega) ?_));simp only[zA (show ¬(2=0) by omega),zA (show ¬(2=1) by omega)];refine hf hL hcok λs z v5 e5 hz hr hL5=>?_;have hs5:=e5.1;obtain⟨eF,h5⟩:=hput v5 _ (λq=>q=b\/z<=q) (e5.sub λq hq=>by rw[hq];exact hL.1) (λq hq=>hq.imp (λ(hx:q=b)=>by rw[hx];exact hL.1) λ(hx:z<=q)=>by omega) hL5;have h5:=h5.cut;have eF5:Ext F σ v5:=e1.newT eF λq hq=>by
   rcases hq.1 with h1|h1
   ·exact .inl h1.1
   ·exact .inr (zCF h1)
  have hnb:∀q,Q q->q≠b:=λq hq hqb=>hbF.2 (hqb▸hq);have hrow5:=(RowR.loc _ _ _).keep hrow1 e5 λq _ hq he=>hnb q hq.1.1 he;have hB5:=(BtO.loc _ _).keep hB1 e5 λq _ hq he=>hnb q (hD q hq.1) he;have hsl:s.len=(f c l).1.length:=by have:=hr.1;simp[Wt]at this;omega
  have hsub':∀y∈todo.filter (λy=>!(y.1==(k:Int))),y∈ptI Y.ps:=λy hy=>hsub y (zH.1 hy).1;have hnd':((todo.filter λy=>!(y.1==(k:Int))).map (·.1)).Nodup:=hnd.sublist (List.filter_sublist.map _);by_cases hemp:(f c l).1=[]
  ·rw[zB hemp]at hstep;refine ifDF (by rw[hsl,hemp];simp) (hJ out v5 (e5.2 _ (by omega) λhe=>hbs he.symm) (e5.2 _ hC1.map.lt λhe=>hbm he.symm) ?_);refine⟨_,outs,λq=>Q q/\q<v'.size,λq=>D q/\q<v'.size,ps,eF5,λq hq=>hQ q hq.1,h5.mono λq _ hq=>?_,(RowR.loc _ _ _).mono hrow5 λq _ hq=>⟨⟨hq.1.1,hq.2⟩,λhd=>hq.1.2 hd.1⟩,hB5,λq hq=>⟨hD q hq.1,hq.2⟩,hstep,hsub',hnd',hj⟩;rcases hq.1 with h1|h1|h1
   ·exact⟨h1.1.1,λhx=>h1.1.2 hx.1⟩
   ·subst h1;exact⟨hbF.1,λhx=>hbF.2 hx.1⟩
   ·exact⟨.inr (by omega),λhx=>by omega⟩
  ·rw[zA hemp]at hstep;have hpos:=zCA.2 hemp;refine ifDT (by rw[hsl];omega) (nw (cs:=btV (k,s)) λv6 hz6 e6 hb6=>?_);have hrow6:=(RowR.loc _ _ _).keep0 hrow5 e6;have hB6:=(BtO.loc _ _).keep0 hB5 e6;have hr6:=(RowR.loc _ _ _).keep0 ((RowR.loc _ _ _).cut hr) e6;have hpl:out.len=ps.length:=by have:=hrow.1;rw[QF]at this;omega
   have hol:ps.length<=40:=by
    have hkeys:outs.map (·.1)⊆List.range 40:=λj hj=>by
     obtain⟨x,hx,rfl⟩:=zC.1 hj;obtain⟨c,l,hc,_⟩:=(hI.o x).1 hx;have:=(gSi.1 hc).1;exact zW.2 (by omega)
    have:=hI.n.length_le_of_subset hkeys;rw[hB.1];simpa using this
   refine hrow6.app (ys:=btV (k,s)) rfl rfl ?_ (λv hv=>V3 (l:=[(k,s)]) v (by simpa[btsV]using hv)) ?_ ?_ zBA λs' v7 hl7 e7 hr7=>?_
   ·intro j u hu;rw[add_lit,zG,hb6.cell];exact hu
   ·simp only;have:(out.len+1)*32<=41*32:=zo (by omega) (by omega);omega
   ·simp only;omega
   have hs7:=e7.1;have e57:Ext (λq=>(Q q/\¬D q)/\q<v'.size) v5 v7:=(Ext0.to e6).trans e7;refine hJ s' v7 ?_ ?_ ?_
   ·rw[e57.2 _ (by omega) λhx=>by have:=hQ _ hx.1.1;omega];exact e5.2 _ (by omega) λhe=>hbs he.symm
   ·rw[e57.2 _ (by have:=hC1.map.lt;omega) λhx=>hmF.2 hx.1.1];exact e5.2 _ hC1.map.lt λhe=>hbm he.symm
   refine⟨_,_,λq=>Q q/\q<v'.size\/(v'.size<=q/\q<z)\/v5.size<=q,λq=>D q/\q<v'.size\/(v'.size<=q/\q<z)/\q<v5.size,ps++[(k,s)],eF5.newT e57 λq hq=>.inr (zCF (hQ q hq.1.1)),λq hq=>?_,(CaY.loc.keep h5 e57 λq hq5 hq hx=>?_).mono λq _ hq=>?_,?_,⟨?_,λi p y hp hy=>?_⟩,λq hq=>?_,hstep,hsub',hnd',hj.snoc hB1 (λx hx=>by
    obtain⟨_,_,_,_,_,_,h2⟩:=(hI.o x).1 hx;exact h2) hr.slR hemp (λb hb hx hy=>by have:=hx.2;have:=hy.1;omega) k⟩
   ·rcases hq with hq|hq|hq
    ·exact hQ q hq.1
    ·omega
    ·omega
   ·rcases hq.1 with h1|h1|h1
    ·exact h1.1.2 hx.1.1
    ·exact hnb q hx.1.1 h1
    ·have:=hx.2;omega
   ·have hq5:=hq.2;rcases hq.1 with h1|h1|h1
    ·exact⟨h1.1.1,λhx=>by
      rcases hx with hx|hx|hx
      ·exact h1.1.2 hx.1
      ·have:=h1.2.1;omega
      ·omega⟩
    ·subst h1;exact⟨hbF.1,λhx=>by
      rcases hx with hx|hx|hx
      ·exact hbF.2 hx.1
      ·omega
      ·omega⟩
    ·exact⟨.inr (by omega),λhx=>by
      rcases hx with hx|hx|hx<;>omega⟩
   ·rw[VJ];have:btsV [(k,s)]=btV (k,s):=by simp[btsV]
    rw[this];refine(RowR.loc _ _ _).mono hr7 λq _ hq=>?_;rcases hq with hq|hq
    ·exact⟨.inl ⟨hq.1.1,hq.2⟩,λhd=>by
      rcases hd with hd|hd
      ·exact hq.1.2 hd.1
      ·omega⟩
    ·exact⟨.inr (.inr (by omega)),λhd=>by
      rcases hd with hd|hd<;>omega⟩
   ·rw[zJ,zJ,hB.1];rfl
   ·rcases zAB i ps.length with hi|hi
    ·rw[zd hi]at hp;rw[zd (by rw[←hB.1];exact hi)]at hy;obtain⟨a1,a2,a3⟩:=hB6.2 i p y hp hy;exact⟨a1,(SlR.loc _ _ _).mono ((SlR.loc _ _ _).keep a2 e7 λq _ hq hx=>hx.1.2 hq.1) λq _ hq=>.inl hq,a3⟩
    ·rw[zk hi]at hp;rw[zk (by rw[←hB.1];exact hi)]at hy;have hi0:i-ps.length=0:=by
      have:=(gSi.1 hp).1;simp at this;omega
     rw[hi0]at hp;rw[show i-outs.length=0 by rw[←hB.1];exact hi0]at hy;simp at hp hy;subst hp;subst hy;exact⟨rfl,(SlR.loc _ _ _).mono ((SlR.loc _ _ _).keep hr6.slR e7 λq _ hq hx=>by have:=hx.2;have:=hq.1;omega) λq _ hq=>.inr hq,RowR.capO hr⟩
   ·rcases hq with hq|hq
    ·exact .inl ⟨hD q hq.1,hq.2⟩
    ·exact .inr (.inl hq.1)
theorem Wh5 (hso:Gi)(h:CaY σ F Y tb bud ls){R:Sl->Hp->Prop}
 (hR:∀σ' s (Q:Rg),Ext F σ σ'->(∀q,Q q->σ.size<=q)->CaY σ' (λq=>Grow F σ q/\¬Q q) Y tb bud (Qi Zj tb ls)->BtR s (Qj Zj tb ls) σ' Q->R s σ'):Xw.c (some ⟨Y.p,0,none⟩) σ R:=by
 refine Xw.o ?_;unfold Xw.v;exact Wac hso WfW (λc _=>Wd7 c) h hR
theorem Wct (hso:Gi)(h:CaY σ F Y tb bud ls){R:Sl->Hp->Prop}
 (hR:∀σ' s (Q:Rg),Ext F σ σ'->(∀q,Q q->σ.size<=q)->CaY σ' (λq=>Grow F σ q/\¬Q q) Y tb bud (Qi QM tb ls)->BtR s (Qj QM tb ls) σ' Q->R s σ'):WV.c (some ⟨Y.p,0,none⟩) σ R:=by
 refine WV.o ?_;unfold WV.v;exact Wac hso WhZ Wf7 h hR
end Go.Ar