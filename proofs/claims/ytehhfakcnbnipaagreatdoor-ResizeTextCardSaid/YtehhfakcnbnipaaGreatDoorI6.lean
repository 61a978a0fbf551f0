/- Texts joined. -/
import Derived.Test.YtehhfakcnbnipaaGreatDoorI5
set_option linter.unusedVariables false
set_option linter.unusedSimpArgs false
namespace Go.Ar
open Go Go.Vc Go.Proofs
variable {U u w w':Hp}{F B P Q:Rg}{n:Nat}{cs:List Value}{tb:List Cls}{cf:Cf}
def Ua (tb:List Cls)(cf:Cf):Hw:=⟨tb,cf,Vi cf.pages,List.replicate cf.arenas (newA cf.pages cf.room tb),List.replicate cf.threads ⟨List.replicate tb.length liN,[],none⟩,[]⟩
def Wdc (p a t b r:Int):Bool:=decide (32<=p)&&decide (p<=1024)&&(p%16==0)&&decide (1<=a)&&decide (a<=4)&&decide (1<=t)&&decide (t<=4)&&decide (0<=b)&&decide (b<=65536)&&decide (0<=r)&&decide (r<=8)
theorem lvl {K:Bool->Hp->Prop}{r:Bool}{a:Addr}{x:Int}{k:IntKind}{f:Int->Bool}(hl:∀{K':Int->Prop},K' x->LdI k a w K')(h:K (r&&f x) w):JnB K λJ=>If r (LdI k a w λt=>J (f t) w) (J false w):=
 JnB.intro (iff_ (λhr=>hl (by rw[hr]at h;exact h)) λhr=>by rw[hr]at h;exact h)
theorem WhS (p a t b r:Int){R:Bool->Hp->Prop}(hR:∀σ',Ext0 U σ'->R (Wdc p a t b r) σ'):Qw.c p a t b r U R:=by
 refine Qw.o ?_;unfold Qw.v;refine nw (cs:=[.int .i64 p,.int .i64 a,.int .i64 t,.int .i64 b,.int .i64 r]) λv hz e hb=>hb.rI rfl ?_;have hfin:=hR v e;unfold Wdc at hfin;refine QD (λr' w=>w=v/\r'=(decide (32<=p)&&decide (p<=1024))) (λr' w ⟨hw,hr⟩=>?_) λJ hJ=>?_
 ·subst hw;subst hr;refine QD (λr' w2=>w2=w/\r'=(decide (32<=p)&&decide (p<=1024)&&(p%16==0))) (λr' w2 ⟨hw,hr⟩=>?_) λJ hJ=>?_
  ·rw[hw];subst hr;exact lvl (λhK=>hb.rI rfl hK) (lvl (λhK=>hb.rI rfl hK) (lvl (λhK=>hb.rI rfl hK) (lvl (λhK=>hb.rI rfl hK) (lvl (λhK=>hb.rI rfl hK) (lvl (λhK=>hb.rI rfl hK) (lvl (λhK=>hb.rI rfl hK) (lvl (λhK=>hb.rI rfl hK) hfin)))))))
  ·refine iff_ (λh1=>hb.rI rfl (nz (by decide) (hJ _ _ ⟨rfl,?_⟩))) λh0=>hJ _ _ ⟨rfl,?_⟩
   ·simp only[zF,zP]at h1;rw[QF (by omega),zI h1.1,zI h1.2];rfl
   ·rw[h0];rfl
 ·refine ifD (λh1=>hb.rI rfl (hJ _ _ ⟨rfl,?_⟩)) λh0=>hJ _ _ ⟨rfl,?_⟩
  ·rw[zI (by omega:32<=p)];rfl
  ·rw[zH (by omega)];rfl
structure NwS where
 p:Nat
 tab:Sl
 lm:Nat
 hs:Option Nat
 hp:Option Nat
 aw:Sl
 al:List Nat
 ha:Sl
 tw:Sl
 tl:List Value
 ht:Sl
 ys:List Lay
 cs:List LayC
def hdW (cf:Cf)(N:NwS):List Value:=[.slice N.tab.a N.tab.len N.tab.cap,.int .i64 (cf.pages:Int),.int .i64 (cf.arenas:Int),.int .i64 (cf.threads:Int),.int .i64 (cf.budget:Int),.int .i64 (cf.room:Int),
 .pointer (N.hp.map λq=>⟨q,0,none⟩),.slice N.ha.a N.ha.len N.ha.cap,.slice N.ht.a N.ht.len N.ht.cap,.map (some N.lm)]
def ArN (n room:Nat)(tb:List Cls)(y:Option Lay):Hp->Rg->Prop:=λU F=>match y with
 | some Y=>AHY U F Y (newA n room tb) (traT (newA n room tb) Y)
 | none=>True
def CaN (tb:List Cls)(bud:Nat)(y:Option LayC):Hp->Rg->Prop:=λU F=>match y with
 | some Y=>CaY U F Y tb bud (List.replicate tb.length liN)
 | none=>True
def SpN (n:Nat)(q:Option Nat):Hp->Rg->Prop:=λU F=>match q with
 | some q=>SpH3 U F q (Vi n)
 | none=>True
def CNW (tb:List Cls)(cf:Cf)(N:NwS):LbH->Hp->Rg->Prop
 | .hd=>BlkR N.p (hdW cf N)
 | .tab=>SlR N.tab 3 (tabV tb)
 | .sp=>SpN cf.pages N.hs
 | .arow=>RowR N.aw 1 (ptrV N.al)
 | .trow=>RowR N.tw 3 N.tl
 | .live=>MapR N.lm .i64 (.ag 4) []
 | .ar k=>ArN cf.pages cf.room tb N.ys[k]?
 | .ca k=>CaN tb cf.budget N.cs[k]?
 | .hn _=>λ_ _=>True
theorem ArN.loc (n room:Nat)(tb:List Cls)(y:Option Lay):Lcl (ArN n room tb y):=by
 intro U σ' F G h hz hs;cases y with
 | some Y=>exact AHY.loc _ _ _ _ h hz hs
 | none=>trivial
theorem CaN.loc (tb:List Cls)(bud:Nat)(y:Option LayC):Lcl (CaN tb bud y):=by
 intro U σ' F G h hz hs;cases y with
 | some Y=>exact CaY.loc _ _ _ _ h hz hs
 | none=>trivial
theorem SpN.loc (n:Nat)(q:Option Nat):Lcl (SpN n q):=by
 intro U σ' F G h hz hs;cases q with
 | some q=>exact SpH3.loc _ _ _ _ h hz hs
 | none=>trivial
theorem CNW.loc {N:NwS}:∀i,Lcl (CNW tb cf N i)
 | .hd=>BlkR.loc _ _
 | .tab=>SlR.loc _ _ _
 | .sp=>SpN.loc _ _
 | .arow=>RowR.loc _ _ _
 | .trow=>RowR.loc _ _ _
 | .live=>MapR.loc _ _ _ _
 | .ar k=>ArN.loc _ _ _ _
 | .ca k=>CaN.loc _ _ _
 | .hn _=>λ_ _ _ _ _ _ _=>trivial
structure NK (U:Hp) (B:Rg) (w:Hp) (P:Rg) (tb:List Cls) (cf:Cf) (N:NwS):Prop where
 sep:Sep (CNW tb cf N) w P
 e:Ext0 U w
 p:∀b,P b->U.size<=b/\¬B b/\b<w.size
 b:∀b,B b->U.size<=b/\b<w.size
variable {N N':NwS}
theorem NK.fr (K:NK U B w P tb cf N)(e:Ext0 w w'):NK U B w' P tb cf N:=
 ⟨(Sep.loc CNW.loc).keep0 K.sep e,K.e.trans e,λb hb=>⟨(K.p b hb).1,(K.p b hb).2.1,by have:=(K.p b hb).2.2;have:=e.1;omega⟩,λb hb=>by have:=K.b b hb;have:=e.1;omega⟩
theorem NK.box (K:NK U B w P tb cf N)(e:Ext0 w w')(hz:w'.size=w.size+1):NK U (λb=>B b\/b=w.size) w' P tb cf N:=by
 have h:=K.fr e;have hs:=K.e.1;exact⟨h.sep,h.e,λb hb=>⟨(K.p b hb).1,λhx=>hx.elim (K.p b hb).2.1 λhy=>by have:=(K.p b hb).2.2;omega,(h.p b hb).2.2⟩,λb hb=>hb.elim (h.b b) λhy=>by omega⟩
theorem NK.drop (K:NK U B w P tb cf N){B':Rg}(hb:∀b,B' b->B b):NK U B' w P tb cf N:=⟨K.sep,K.e,λb h=>⟨(K.p b h).1,λhx=>(K.p b h).2.1 (hb b hx),(K.p b h).2.2⟩,λb h=>K.b b (hb b h)⟩
theorem NK.put (K:NK U B w P tb cf N)(e:Ext0 w w')(i:LbH)(hj:∀j,j≠i->CNW tb cf N' j=CNW tb cf N j)(hi:CNW tb cf N' i w' (λb=>w.size<=b)):NK U B w' (λb=>P b\/w.size<=b/\b<w'.size) tb cf N':=by
 have h:=K.fr e;have hs:=K.e.1;refine⟨h.sep.put CNW.loc i (G:=λb=>w.size<=b/\b<w'.size) (λb hb hp=>by have:=(K.p b hp).2.2;omega) hj ((CNW.loc i).mono hi λb hb hx=>⟨hx,hb⟩) (CNW.loc i),h.e,λb hb=>?_,h.b⟩;rcases hb with hb|hb
 ·exact h.p b hb
 ·exact⟨by omega,λhx=>by have:=(K.b b hx).2;omega,hb.2⟩
theorem NK.step (K:NK U B w P tb cf N)(i:LbH):∃G:Rg,(∀b,G b->P b)/\CNW tb cf N i w G/\∀(w':Hp) (N':NwS) (G':Rg),(∀j,j≠i->CNW tb cf N' j=CNW tb cf N j)->Ext G w w'->(∀b,G' b->G b\/w.size<=b/\¬B b)->CNW tb cf N' i w' G'->(∀b,B b->b<w'.size) →
 NK U B w' (λb=>(P b/\¬G b\/G' b)/\b<w'.size) tb cf N':=by
 obtain⟨G,hG,hi,_,hput⟩:=K.sep.stepD CNW.loc i;refine⟨G,hG,hi,λw' N' G' hj e hg h' hB=>⟨?_,?_,λb hb=>?_,λb hb=>⟨(K.b b hb).1,hB b hb⟩⟩⟩
 ·have:=hput w' (CNW tb cf N') G' hj e (λb hb=>(hg b hb).imp id λhx=>hx.1) h' (CNW.loc _);refine(Sep.loc CNW.loc).mono this λb hb hx=>⟨?_,hb⟩;exact hx.imp (λhx=>⟨hx.1,hx.2.2⟩) id
 ·exact Ext.newT K.e e λb hb=>.inr (K.p b (hG b hb)).1
 ·have hs:=K.e.1;rcases hb.1 with h1|h1
  ·exact⟨(K.p b h1.1).1,(K.p b h1.1).2.1,hb.2⟩
  ·rcases hg b h1 with h2|h2
   ·exact⟨(K.p b (hG b h2)).1,(K.p b (hG b h2)).2.1,hb.2⟩
   ·exact⟨by omega,h2.2,hb.2⟩
theorem jnPp {K:Fam [.p]}{body:Fam [.p]->Prop}(P:Option Addr->Hp->Prop)(h1:∀r w,P r w->K r w)(h2:∀J:Fam [.p],(∀r w,P r w->J r w)->body J):Jn [.p] K body:=Jn.intro (h2 K h1)
def nilS:Sl:=⟨none,0,0⟩
def tlv (cs:List LayC):List Value:=cs.flatMap λc=>[.pointer (some ⟨c.p,0,none⟩),.slice none 0 0,.nilIface]
def N0 (p:Nat)(tab:Sl)(lm:Nat):NwS:=⟨p,tab,lm,none,none,nilS,[],nilS,nilS,[],nilS,[],[]⟩
def NB (p:Nat)(tab:Sl)(lm q:Nat)(aw:Sl)(ys:List Lay)(tw:Sl)(cs:List LayC):NwS:=⟨p,tab,lm,some q,some q,aw,ys.map (·.p),aw,tw,tlv cs,tw,ys,cs⟩
theorem NK0 {p lm:Nat}{tab:Sl}{D:Rg}(e:Ext0 U w)(hz:U.size<w.size)(hp:Blk w p (hdW cf (N0 p tab lm)))(hm:MapL w lm .i64 (.ag 4) [])(ht:SlR tab 3 (tabV tb) w D)(hD:∀b,D b->U.size<b/\b<w.size/\b≠p/\b≠lm)(hpl:p≠lm)(h1:U.size<p)(h2:U.size<lm) :
 NK U (· = U.size) w (λb=>D b\/b=p\/b=lm) tb cf (N0 p tab lm):=by
 have hpw:=hp.lt;have hlw:=hm.lt;refine⟨⟨λb=>if b=p then .hd else if b=lm then .live else .tab,λi=>?_⟩,e,λb hb=>?_,λb hb=>by omega⟩
 ·cases i with
  | hd=>exact⟨⟨.inr (.inl rfl),zB rfl⟩,hp⟩
  | live=>exact⟨⟨.inr (.inr rfl),by show(if lm=p then LbH.hd else if lm=lm then LbH.live else LbH.tab)=.live;rw[zA (Ne.symm hpl),zB rfl]⟩,hm⟩
  | tab=>exact(SlR.loc _ _ _).mono ht λb _ hb=>⟨.inl hb,by show(if b=p then LbH.hd else if b=lm then LbH.live else LbH.tab)=.tab;rw[zA (hD b hb).2.2.1,zA (hD b hb).2.2.2]⟩
  | sp=>trivial
  | arow=>exact RowR.nil _ _ _ _
  | trow=>exact RowR.nil _ _ _ _
  | ar k=>trivial
  | ca k=>trivial
  | hn k=>trivial
 ·rcases hb with hb|hb|hb
  ·have:=hD b hb;omega
  ·omega
  ·omega
theorem NK.hdB (K:NK U B w P tb cf N):P N.p/\Blk w N.p (hdW cf N):=by
 obtain⟨G,hG,hb⟩:=K.sep.get .hd;exact⟨hG _ hb.1,hb.2⟩
theorem NK.hdr (K:NK U B w P tb cf N)(N':NwS)(hN':∀j,j≠.hd->CNW tb cf N' j=CNW tb cf N j)(hp:N'.p=N.p){i:Nat}{v:Value}(hs:(hdW cf N).set i v=hdW cf N')(hi:i<10){Kk:Hp->Prop}(hK:∀w' P',NK U B w' P' tb cf N'->QK w w' N.p->Kk w'):St1 (Addr.add ⟨N.p,0,none⟩ i) v w Kk:=by
 obtain⟨G,hG,hb,hput⟩:=K.step .hd;have hb:BlkR N.p (hdW cf N) w G:=hb;refine hb.2.s1 (by simpa[hdW]using hi) λw' o b'=>hK w' _ (hput w' N' G hN' (o.ext.sub λx hx=>by rw[hx];exact hb.1) (λx hx=>.inl hx) ?_ λx hx=>by have:=(K.b x hx).2;have:=o.1;omega) o;show BlkR N'.p (hdW cf N') w' G;rw[zJ,hs]at b';rw[hp];exact⟨hb.1,b'⟩
theorem WnP {Y:Lay}(h:N'.ys=N.ys++[Y])(hr:∀j,(∀k,j≠.ar k)->CNW tb cf N' j=CNW tb cf N j):∀j,j≠LbH.ar N.ys.length->CNW tb cf N' j=CNW tb cf N j:=by
 intro j hj;cases j with
 | ar k=>
  have hk:k≠N.ys.length:=λe=>hj (by rw[e]);show ArN _ _ _ N'.ys[k]?=ArN _ _ _ N.ys[k]?;rw[h]
  congr 1
  rcases Nat.lt_or_gt_of_ne hk with h1|h1
  ·rw[zf h1]
  ·rw[zU (by simp;omega),zU (by omega)]
 | _=>exact hr _ (λk e=>by cases e)
theorem Wnt {Y:LayC}(h:N'.cs=N.cs++[Y])(hr:∀j,(∀k,j≠.ca k)->CNW tb cf N' j=CNW tb cf N j):∀j,j≠LbH.ca N.cs.length->CNW tb cf N' j=CNW tb cf N j:=by
 intro j hj;cases j with
 | ca k=>
  have hk:k≠N.cs.length:=λe=>hj (by rw[e]);show CaN _ _ N'.cs[k]?=CaN _ _ N.cs[k]?;rw[h]
  congr 1
  rcases Nat.lt_or_gt_of_ne hk with h1|h1
  ·rw[zf h1]
  ·rw[zU (by simp;omega),zU (by omega)]
 | _=>exact hr _ (λk e=>by cases e)
end Go.Ar
namespace Go.Ar
open Go Go.Vc Go.Proofs
variable {U u w w':Hp}{F B P Q:Rg}{n:Nat}{cs:List Value}{tb:List Cls}{cf:Cf}{N:NwS}
theorem WcI (p a t b r:Int):Wdc p a t b r=true↔(32<=p/\p<=1024/\p%16=0)/\(1<=a/\a<=4)/\(1<=t/\t<=4)/\(0<=b/\b<=65536)/\0<=r/\r<=8:=by
 simp only[Wdc,zF,zP,zY];omega
theorem WnM (g:Gl U)(gd:Gd U):Off (λb=>U.size<=b)/\¬(U.size<=1):=by
 refine⟨?_,λh=>by have:=Wh9 gd;omega⟩;have h0:Off (λ_=>False):=λb hb=>hb.elim;exact(h0.grow g).sub λb hb=>.inr hb
theorem Wln (cs:List LayC)(ls:List Li):trV (cs.map λc=>⟨c,nilS⟩) (List.replicate cs.length ⟨ls,[],none⟩)=tlv cs:=by
 induction cs with
 | nil=>rfl
 | cons c cs ih=>
  have e1:trV ((c::cs).map λc=>(⟨c,nilS⟩:LayT)) (List.replicate (c::cs).length ⟨ls,[],none⟩)=thV (⟨c,nilS⟩,⟨ls,[],none⟩)++trV (cs.map λc=>(⟨c,nilS⟩:LayT)) (List.replicate cs.length ⟨ls,[],none⟩):=rfl;rw[e1,ih];rfl
theorem WmZ (cs:List LayC):(tlv cs).length=cs.length*3:=by
 induction cs with
 | nil=>rfl
 | cons c cs ih=>simp only[tlv,zBR,zQ,zV,zAK]at *;omega
set_option maxRecDepth 8000 in
theorem WdU {s:Sl}{xs:List (Int×Int×Int)}(ha:Acts U s xs)(g:Gl U)(gd:Gd U)(p a t b r:Int){R:Option Addr->Int->Hp->Prop}
 (h2:Qo xs=false->∀σ',Ext0 U σ'->R none 2 σ')
 (h1:Qo xs=true->Wdc p a t b r=false->∀σ',Ext0 U σ'->R none 1 σ')
 (h0:Qo xs=true->Wdc p a t b r=true->∀σ' L,Ext0 U σ'->HH σ' (λq=>U.size<=q) L (Ua (xs.map Z9) ⟨p.toNat,a.toNat,t.toNat,b.toNat,r.toNat⟩)->R (some ⟨L.p,0,none⟩) 0 σ') :
 Kx.c s p a t b r U R:=by
 refine Kx.o ?_;unfold Kx.v;refine nw (cs:=[.int .i64 p,.int .i64 a,.int .i64 t,.int .i64 b,.int .i64 r]) λv hz e hb=>?_;refine GF (ZX ha e) λv1 e1=>?_;cases hv:Qo xs with
 | false=>exact ifT rfl (h2 hv v1 (e.trans e1))
 | true=>
 have hb1:=e1.blk hb id;refine ifF rfl (hb1.rI rfl (hb1.rI rfl (hb1.rI rfl (hb1.rI rfl (hb1.rI rfl (WhS p a t b r λv2 e2=>?_))))));have e02:=(e.trans e1).trans e2;cases hc:Wdc p a t b r with
 | false=>exact ifT rfl (h1 hv hc v2 e02)
 | true=>
 have hcf:=(WcI p a t b r).1 hc;obtain⟨p,rfl⟩:∃n:Nat,p=(n:Int):=⟨p.toNat,by omega⟩;obtain⟨a,rfl⟩:∃n:Nat,a=(n:Int):=⟨a.toNat,by omega⟩;obtain⟨t,rfl⟩:∃n:Nat,t=(n:Int):=⟨t.toNat,by omega⟩;obtain⟨b,rfl⟩:∃n:Nat,b=(n:Int):=⟨b.toNat,by omega⟩;obtain⟨r,rfl⟩:∃n:Nat,r=(n:Int):=⟨r.toNat,by omega⟩;simp only[iTn]at h0;have h0:=h0 hv hc;have hb2:=e2.blk hb1 id;have hxl:=(Z7 xs).1 hv;have hz2:=e02.1;have hz02:U.size<v2.size:=hb2.lt;generalize hcfd:(⟨p,a,t,b,r⟩:Cf)=cf at h0;generalize htbd:xs.map Z9=tb at h0;have hdE:∀(q:Nat) (tab:Sl) (lm:Nat),hdW cf (N0 q tab lm)=[.slice tab.a tab.len tab.cap,.int .i64 (p:Int),.int .i64 (a:Int),.int .i64 (t:Int),.int .i64 (b:Int),.int .i64 (r:Int),.pointer none,.slice none 0 0,.slice none 0 0,.map (some lm)]:=λq tab lm=>by rw[←hcfd];rfl
 refine ifF rfl (jnPp (λvh w=>∃P q tab lm,vh=some ⟨q,0,none⟩/\NK U (· = U.size) w P tb cf (N0 q tab lm)/\Blk w U.size [.int .i64 (p:Int),.int .i64 (a:Int),.int .i64 (t:Int),.int .i64 (b:Int),.int .i64 (r:Int)]) (λvh w ⟨P,q,tab,lm,hvh,K,hbw⟩=>?_) λJ hJ=>?_)
 ·subst hvh;refine hbw.rI rfl (Wh8 (n:=p) (by omega) (by omega) λv4 sp e4 _ hS=>?_);have hp:cf.pages=p:=by rw[←hcfd]
  have hroom:cf.room=r:=by rw[←hcfd]
  have hbud:cf.budget=b:=by rw[←hcfd]
  have K1:NK U (· = U.size) v4 _ tb cf {N0 q tab lm with hs:=some sp}:=K.put e4 .sp (λj hj=>by cases j<;>first|rfl|exact absurd rfl hj) (by
   show SpH3 v4 _ sp (Vi cf.pages);rw[hp];exact hS)
  have hbw4:=e4.blk hbw id;refine nilP (K1.hdr (NB q tab lm sp nilS [] nilS []) (λj hj=>by cases j<;>first|rfl|exact absurd rfl hj) rfl (i:=6) rfl (by omega) λv5 P5 K5 o5=>?_)
  have hnep:∀{w:Hp} {P:Rg} {N:NwS},NK U (· = U.size) w P tb cf N->U.size≠N.p:=λK e=>(K.p _ K.hdB.1).2.1 e.symm;have hbw5:=Ws o5 hbw4 (hnep K1);refine hbw5.rI rfl ?_;refine Zx (a:=.i .i64) (λ(z:Int) w=>∃(P:Rg) (aw:Sl) (ys:List Lay),z=(ys.length:Int)/\ys.length<=a/\(∀Y∈ys,Y.hs=sp)/\NK U (· = U.size) w P tb cf (NB q tab lm sp aw ys nilS [])/\Blk w U.size [.int .i64 (p:Int),.int .i64 (a:Int),.int .i64 (t:Int),.int .i64 (b:Int),.int .i64 (r:Int)]) (λz _=>a-z.toNat) ⟨P5,nilS,[],rfl,by simp,by simp,K5,hbw5⟩ ?_;rintro(z:Int) w6 ⟨P6,aw,ys,rfl,hyl,hys,K6,hbw6⟩;refine ifD (λhlt=>?_) λhge=>?_
  ·refine⟨λu=>u=w6,rfl,nilP ⟨some ⟨sp,0,none⟩,λu hu=>by cases hu;rw[add_lit];exact(Blk.cell (b:=q) K6.hdB.2).trans rfl,⟨(r:Int),λu hu=>by cases hu;rw[add_lit,hbw6.cell];rfl,?_⟩⟩⟩;obtain⟨GS,hGS,hSp⟩:=K6.sep.get .sp;have hSp:SpH3 w6 GS sp (Vi cf.pages):=hSp;have hnl:(Vi cf.pages).st.length=p:=by rw[hp];simp[Vi]
   have hnE:newE xs (Vi cf.pages).st.length (r:Int)=0:=by
    unfold newE;rw[zB hv,hnl,zB (by omega)]
   refine WlC (ZX ha K6.e) hSp (r:Int) (λhne=>absurd hnE hne) λ_ v7 Y e7 hYh hA=>?_;rw[hnl,iTn,htbd]at hA;have K7:NK U (· = U.size) v7 _ tb cf {NB q tab lm sp aw ys nilS []with ys:=ys++[Y]}:=K6.put e7 (.ar ys.length) (WnP (N:=NB q tab lm sp aw ys nilS []) rfl (λj hj=>by
    cases j with
    | ar k=>exact absurd rfl (hj k)
    | _=>rfl)) (by
    show ArN cf.pages cf.room tb (ys++[Y])[ys.length]? v7 _;rw[zn (zC _),zBS,hp,hroom];exact hA)
   have hbw7:=e7.blk hbw6 id;refine nilP (K7.hdB.2.rS (a:=aw.a) (n:=aw.len) (c:=aw.cap) rfl (nw (cs:=[.pointer (some ⟨Y.p,0,none⟩)]) λv8 hz8 e8 hb8=>?_));have K8:=K7.box e8 hz8;obtain⟨G,hG,hrow,hput⟩:=K8.step .arow;have hrow:RowR aw 1 (ptrV (ys.map (·.p))) v8 G:=hrow;have hal:aw.len=ys.length:=by have:=hrow.1;simp[ptrV]at this;omega
   refine hrow.app (ys:=[.pointer (some ⟨Y.p,0,none⟩)]) rfl rfl ?_ (by simp[one1]) ?_ ?_ zBI λs' v9 _ e9 hr9=>?_
   ·intro j u hu;rw[add_lit,zJ,hb8.cell];exact hu
   ·simp only;omega
   ·simp only;omega
   have hz9:=e9.1;have hbw9:Blk v9 U.size _:=e9.blk (e8.blk hbw7 id) λhx=>(K8.p _ (hG _ hx)).2.1 (.inl rfl);have K9:=(hput v9 {NB q tab lm sp aw ys nilS []with ys:=ys++[Y],aw:=s',al:=(ys++[Y]).map (·.p)} (λb=>Grow G v8 b/\b<v9.size) (λj hj=>by cases j<;>first|rfl|exact absurd rfl hj) e9 (λb hb=>hb.1.imp id λhx=>⟨hx,λhB=>by have:=(K8.b b hB).2;omega⟩) (by
    show RowR s' 1 (ptrV ((ys++[Y]).map (·.p))) v9 _;have:ptrV ((ys++[Y]).map (·.p))=ptrV (ys.map (·.p))++[.pointer (some ⟨Y.p,0,none⟩)]:=by simp[ptrV]
    rw[this];exact(RowR.loc _ _ _).mono hr9 λb hb hx=>⟨hx,hb⟩) λb hB=>by have:=(K8.b b hB).2;omega).drop (B':=(· = U.size)) λb hb=>.inl hb
   refine nilP (K9.hdr (NB q tab lm sp s' (ys++[Y]) nilS []) (λj hj=>by cases j<;>first|rfl|exact absurd rfl hj) rfl (i:=7) rfl (by omega) λv10 P10 K10 o10=>?_)
   have hbw10:=Ws o10 hbw9 (hnep K9);exact arN (m:=ys.length+1) (by omega) (by omega) ⟨⟨P10,s',ys++[Y],by simp,by simp;omega,λZ hZ=>(zS.1 hZ).elim (hys Z) λh=>by
    rw[zZ]at h;rw[h];exact hYh,K10,hbw10⟩,by omega⟩
  ·have hya:ys.length=a:=by omega
   refine hbw6.rI rfl ?_;refine Zx (a:=.i .i64) (λ(z:Int) w=>∃(P:Rg) (tw:Sl) (cs:List LayC),z=(cs.length:Int)/\cs.length<=t/\NK U (· = U.size) w P tb cf (NB q tab lm sp aw ys tw cs)/\Blk w U.size [.int .i64 (p:Int),.int .i64 (a:Int),.int .i64 (t:Int),.int .i64 (b:Int),.int .i64 (r:Int)]) (λz _=>t-z.toNat) ⟨P6,nilS,[],rfl,by simp,K6,hbw6⟩ ?_;rintro(z:Int) w7 ⟨P7,tw,cs,rfl,hcsl,K7,hbw7⟩;refine ifD (λhlt=>?_) λhge2=>?_
   ·refine hbw7.rI rfl (Wm0 (ZX ha K7.e) (b:Int) (λhvf=>by rw[hv]at hvf;cases hvf) (λ_ hn=>absurd ⟨by omega,by omega⟩ hn) λ_ _ _ v8 Y e8 hC=>?_);rw[iTn,htbd]at hC;have K8:NK U (· = U.size) v8 _ tb cf {NB q tab lm sp aw ys tw cs with cs:=cs++[Y]}:=K7.put e8 (.ca cs.length) (Wnt (N:=NB q tab lm sp aw ys tw cs) rfl (λj hj=>by
     cases j with
     | ca k=>exact absurd rfl (hj k)
     | _=>rfl)) (by
     show CaN tb cf.budget (cs++[Y])[cs.length]? v8 _;rw[zn (zC _),zBS,hbud];exact hC)
    have hbw8:=e8.blk hbw7 id;refine nilP (K8.hdB.2.rS (a:=tw.a) (n:=tw.len) (c:=tw.cap) rfl (nw (cs:=[.pointer (some ⟨Y.p,0,none⟩),.slice none 0 0,.nilIface]) λv9 hz9 e9 hb9=>?_));have K9:=K8.box e9 hz9;obtain⟨G,hG,hrow,hput⟩:=K9.step .trow;have hrow:RowR tw 3 (tlv cs) v9 G:=hrow;have hal:tw.len=cs.length:=by have:=hrow.1;rw[WmZ]at this;omega
    refine hrow.app (ys:=[.pointer (some ⟨Y.p,0,none⟩),.slice none 0 0,.nilIface]) rfl rfl ?_ (by simp[one1]) ?_ ?_ zBI λs' v10 _ e10 hr10=>?_
    ·intro j u hu;rw[add_lit,zJ,hb9.cell];exact hu
    ·simp only;omega
    ·simp only;omega
    have hz10:=e10.1;have hbw10:Blk v10 U.size _:=e10.blk (e9.blk hbw8 id) λhx=>(K9.p _ (hG _ hx)).2.1 (.inl rfl);have K10:=(hput v10 {NB q tab lm sp aw ys tw cs with cs:=cs++[Y],tw:=s',tl:=tlv (cs++[Y])} (λb=>Grow G v9 b/\b<v10.size) (λj hj=>by cases j<;>first|rfl|exact absurd rfl hj) e10 (λb hb=>hb.1.imp id λhx=>⟨hx,λhB=>by have:=(K9.b b hB).2;omega⟩) (by
     show RowR s' 3 (tlv (cs++[Y])) v10 _;have:tlv (cs++[Y])=tlv cs++[.pointer (some ⟨Y.p,0,none⟩),.slice none 0 0,.nilIface]:=by simp[tlv]
     rw[this];exact(RowR.loc _ _ _).mono hr10 λb hb hx=>⟨hx,hb⟩) λb hB=>by have:=(K9.b b hB).2;omega).drop (B':=(· = U.size)) λb hb=>.inl hb
    refine nilP (K10.hdr (NB q tab lm sp aw ys s' (cs++[Y])) (λj hj=>by cases j<;>first|rfl|exact absurd rfl hj) rfl (i:=8) rfl (by omega) λv11 P11 K11 o11=>?_)
    have hbw11:=Ws o11 hbw10 (hnep K10);exact arN (m:=cs.length+1) (by omega) (by omega) ⟨⟨P11,s',cs++[Y],by simp,by simp;omega,K11,hbw11⟩,by omega⟩
   ·have hct:cs.length=t:=by omega
    have hct':cf.threads=cs.length:=by rw[←hcfd,hct]
    have hya':cf.arenas=ys.length:=by rw[←hcfd,hya]
    have hN:=WnM g gd;refine h0 w7 ⟨q,sp,lm,tab,aw,tw,ys,cs.map λc=>⟨c,nilS⟩⟩ K7.e ⟨⟨?_,hys,?_,?_,?_,?_,?_,?_⟩,?_,g.keep0 K7.e,gd.keep0 K7.e,hN.1,hN.2⟩
    ·simp[Ua,hya']
    ·simp[Ua,hct']
    ·simp[Ua,hya'];omega
    ·simp[Ua,hya'];omega
    ·simp[Ua,hct'];omega
    ·simp[Ua,hct'];omega
    ·intro B hB;have:=List.eq_of_mem_replicate hB;rw[this];rfl
    ·refine(Sep.loc CH.loc).mono (G:=λq=>U.size<=q) ?_ λb _ hb=>hb;obtain⟨ρ,hs⟩:=(Sep.loc CNW.loc).mono K7.sep (G:=λq=>U.size<=q) λb _ hb=>(K7.p b hb).1;refine⟨ρ,λi=>?_⟩;have hi:=hs i;cases i with
     | hd=>exact hi
     | tab=>exact hi
     | sp=>exact hi
     | arow=>exact RowR.slR hi
     | trow=>
      show RowR tw 3 (trV (cs.map λc=>⟨c,nilS⟩) (List.replicate cf.threads ⟨List.replicate tb.length liN,[],none⟩)) w7 _;rw[hct',Wln];exact hi
     | live=>exact hi
     | ar k=>
      show ArH ys[k]? (List.replicate cf.arenas (newA cf.pages cf.room tb))[k]? w7 _;have hi:ArN cf.pages cf.room tb ys[k]? w7 _:=hi;unfold ArH;by_cases hk:k<ys.length
      ·rw[zAM,zB (by omega),gGe hk];rw[gGe hk]at hi;exact hi
      ·rw[zU (by omega)];trivial
     | ca k=>
      show CaH (cs.map λc=>(⟨c,nilS⟩:LayT))[k]? (List.replicate cf.threads (⟨List.replicate tb.length liN,[],none⟩:Th))[k]? tb cf.budget w7 _;have hi:CaN tb cf.budget cs[k]? w7 _:=hi;unfold CaH;by_cases hk:k<cs.length
      ·rw[zAM,zB (by omega),zg,gGe hk];rw[gGe hk]at hi;exact hi
      ·rw[zg,zU (by omega)];trivial
     | hn k=>
      show HnH (cs.map λc=>(⟨c,nilS⟩:LayT))[k]? (List.replicate cf.threads (⟨List.replicate tb.length liN,[],none⟩:Th))[k]? w7 _;unfold HnH;by_cases hk:k<cs.length
      ·rw[zAM,zB (by omega),zg,gGe hk];exact BtR.nil _ _ _
      ·rw[zg,zU (by omega)];trivial
 ·have rd:∀(i:Nat) (x:Int),[Value.int .i64 (p:Int),.int .i64 (a:Int),.int .i64 (t:Int),.int .i64 (b:Int),.int .i64 (r:Int)][i]?=some (.int .i64 x)->∀m,Blk m U.size [.int .i64 (p:Int),.int .i64 (a:Int),.int .i64 (t:Int),.int .i64 (b:Int),.int .i64 (r:Int)]->cell m (Addr.add ⟨U.size,0,none⟩ i)=some (.int .i64 x):=λi x hx m hm=>by
   rw[add_lit,hm.cell,zJ];exact hx
  refine⟨λm=>Blk m U.size [.int .i64 (p:Int),.int .i64 (a:Int),.int .i64 (t:Int),.int .i64 (b:Int),.int .i64 (r:Int)],hb2,⟨(p:Int),rd 0 _ rfl,⟨(a:Int),rd 1 _ rfl,⟨(t:Int),rd 2 _ rfl,⟨(b:Int),rd 3 _ rfl,⟨(r:Int),rd 4 _ rfl,⟨?_,?_⟩⟩⟩⟩⟩⟩⟩
  ·refine V6 (ZX ha e02) hv λtab v16 e16 htab=>⟨e16.blk hb2 id,WhR λv17 z17 e17 hm=>⟨e17.blk (e16.blk hb2 id) id,?_⟩⟩;rw[htbd]at htab;have hz16:=e16.1;refine nw (cs:=[.slice tab.a tab.len tab.cap,.int .i64 (p:Int),.int .i64 (a:Int),.int .i64 (t:Int),.int .i64 (b:Int),.int .i64 (r:Int),.pointer none,.slice none 0 0,.slice none 0 0,.map (some v16.size)]) λv18 z18 e18 hb18=>⟨e18.blk (e17.blk (e16.blk hb2 id) id) id,hJ _ _ ⟨_,v17.size,tab,v16.size,rfl,NK0 (D:=λq=>v2.size<=q/\q<v16.size) (((e02.trans e16).trans e17).trans e18) (by omega) (by rw[hdE];exact hb18) (e18.mapL (hm .i64 (.ag 4)) id) ?_ (λb hb=>by omega) (by omega) (by omega) (by omega),e18.blk (e17.blk (e16.blk hb2 id) id) id⟩⟩;exact(SlR.loc _ _ _).keep0 ((SlR.loc _ _ _).keep0 ((SlR.loc _ _ _).mono htab (G:=λq=>v2.size<=q/\q<v16.size) λb hb hx=>⟨hx,hb⟩) e17) e18
  ·refine WhR λv19 z19 e19 hm=>⟨e19.blk hb2 id,V6 (ZX ha (e02.trans e19)) hv λtab v20 e20 htab=>⟨e20.blk (e19.blk hb2 id) id,?_⟩⟩;rw[htbd]at htab;have hz20:=e20.1;refine nw (cs:=[.slice tab.a tab.len tab.cap,.int .i64 (p:Int),.int .i64 (a:Int),.int .i64 (t:Int),.int .i64 (b:Int),.int .i64 (r:Int),.pointer none,.slice none 0 0,.slice none 0 0,.map (some v2.size)]) λv21 z21 e21 hb21=>⟨e21.blk (e20.blk (e19.blk hb2 id) id) id,hJ _ _ ⟨_,v20.size,tab,v2.size,rfl,NK0 (D:=λq=>v19.size<=q/\q<v20.size) (((e02.trans e19).trans e20).trans e21) (by omega) (by rw[hdE];exact hb21) (e21.mapL (e20.mapL (hm .i64 (.ag 4)) id) id) ?_ (λb hb=>by omega) (by omega) (by omega) (by omega),e21.blk (e20.blk (e19.blk hb2 id) id) id⟩⟩;exact(SlR.loc _ _ _).keep0 ((SlR.loc _ _ _).mono htab (G:=λq=>v19.size<=q/\q<v20.size) λb hb hx=>⟨hx,hb⟩) e21
end Go.Ar
namespace Go.Proofs
open Go.Vc
set_option maxRecDepth 100000
def ZY.h:Hn:=.q .o2 (.q (.q .o3 (.q .o2 (.c (.q .o3 .l) .l))) (.q (.q (.reg (.seq [.op,.op,.op,.grd false 2 [.op,.op],.op,.grd false 2 [.op,.op],.op,.grd false 2 [.op,.op],.op,.grd false 5 (RI.ops 5)])) (.c (.q .o2 .l) .l)) (.q .o3 (.q (.q .o9 (.q .o2 (.c (.q .o7 .l) .l))) (.q .o7 .l)))))
def ZY.v (a:R2)(b c:Int)(d:Hp)(e:Int->Int->Hp->Prop):Prop:=YA.c a ⟨none,0,0⟩ d λf g=>If (f != 0) (e 0 f g) (JnB (λh i=>JnB (λj k=>JnB (λl m=>JnB (λn o=>If n (e 0 1 o) (YH.c a o λp q=>ZN.c p b c q λr s t=>If (s==0) (Ix p.a p.len r 3 λu=>LdI .i64 (u.add 0) t λv=>e v 0 t) (Ar .i64 (b+256) λw=>Ar .i64 (w-1) λx=>Nz 256<|Ar .i64 (x.tdiv 256) λy=>Ar .i64 (y*256) λz=>e z 0 t))) λaa=>If l (aa true m) (Ar .i64 (c-1) λab=>aa ((bits .and .i64 c ab) != 0) m)) λac=>If j (ac true k) (ac (decide (c>256)) k)) λad=>If h (ad true i) (ad (decide (c<1)) i)) λae=>If (b<1) (ae true g) (ae (decide (b>16384)) g))
theorem ZY.o {a b c d e}(f:ZY.v a b c d e):ZY.c a b c d e:=Wa Tryz.func11 (x:=ZY.h) (R0 f)
def YR.h:Hn:=.q .o2 (.q (.q .o5 (.q .o2 (.c (.q .o3 .l) .l))) (.q (.q (.reg (.seq [.op,.op,.op,.grd false 2 [.op,.op]])) (.c (.q .o2 .l) .l)) (.q (.q .o2 (.c (.q (.q .o2 (.c (.q .o2 .l) .l)) (.q .o8 .l)) .l)) (.q .o8 (.q (.q .o2 (.c (.q .o2 .l) .l)) (.q (.q .o2 (.c (.q .o6 .l) .l)) (.q (.q .o8 (.q (.reg (.seq [.op,.op,.op,.op,.grd true 4 (RI.ops 4)])) (.c (.q .o3 .l) .l))) (.q .o9 (.q (.q .o2 (.c (.q .o3 .l) .l)) (.q .o8 (.q .o8 (.q .o4 (.q .o3 .l)))))))))))))
def YR.v (a:R2)(b c d:Int)(e:Hp)(f:Int->Int->Hp->Prop):Prop:=Nw (.cells #[.I b] 3 (0,0)) e λg h=>YA.c a ⟨some g,1,1⟩ h λi j=>If (i != 0) (f 0 i j) (JnB (λk l=>If k (f 0 1 l) (If (c==0) (If (d==0) (f 0 0 l) (Xr.c a b d 8 l λm n o=>f m n o)) (Xd.c a c l λp q r=>If (q != 0) (f 0 8 r) (If (d==0) (YQ.c a b c r λs t=>f 0 s t) (ZY.c a d 8 r λu v w=>JnB (λx y=>If x (f c 0 y) (Xr.c a b d 8 y λz aa ab=>If (aa != 0) (f 0 aa ab) (Xd.c a z ab λac ad ae=>ZG.c (if ac<p then ac else p) ae λaf ag=>ZV.c a z c af ag λah=>YQ.c a b c ah λai aj=>f z 0 aj))) λak=>If (d<=p) (Ar .i64 (2*u) λal=>ak (decide (p<=al)) w) (ak false w)))))) λam=>If (d<0) (am true j) (am (decide (d>16384)) j))
theorem YR.o {a b c d e f}(g:YR.v a b c d e f):YR.c a b c d e f:=Wa Tryz.func12 (x:=YR.h) (R0 g)
def Qm.h:Hn:=.q .o2 (.q (.q .o5 (.q .o2 (.c (.q .o3 .l) .l))) (.q (.q .o3 (.c (.q .o2 .l) .l)) (.q .o6 (.q (.o 11) (.q (.q .o2 (.c (.q .o3 .l) .l)) (.q .o5 (.q (.q .o2 (.k (.loop [(49,.I)] (.q .o1 (.q (.c .l .l) (.q (.k (.q .o2 (.q .o1 (.q (.q .o1 (.k (.loop [(13,.one (.i .u64)),(52,.I)] (.q .o1 (.q (.c .l .l) (.q (.k (.q .o2 (.q .o5 (.q .o4 (.c .o10 .l))))) .o2)))))) .o9)))) .o2)))))) (.q .o3 .l))))))))
def Qm.v (a:R2)(b:Int)(c:ByteArray)(d:Hp)(e:Int->Int->Hp->Prop):Prop:=Nw (.cells #[.I b] 3 (0,0)) d λf g=>YA.c a ⟨some f,1,1⟩ g λh i=>If (h != 0) (e 0 h i) (If (((c.size:Nat):Int)>400) (e 0 3 i) (Ar .i64 (((c.size:Nat):Int)+8) λj=>Ar .i64 (j-1) λk=>Nz 8<|Ar .i64 (k.tdiv 8) λl=>Ar .i64 (l+1) λm=>Ar .i64 (m*8) λn=>Xr.c a b n 8 i λo p q=>If (p != 0) (e 0 p q) (XM.c a o ((c.size:Nat):Int) q λr s=>Xo [(.i .i64)] (λt=>t 0 s) λu (v:Int) w=>If (v<l) (Xo [(.i .u64),(.i .i64)] (λx=>x 0 0 w) λy (z:Int) (aa:Int) ab=>If (aa<8) (Ar .i64 (v*8) λac=>Ar .i64 (ac+aa) λad=>If (ad<((c.size:Nat):Int)) (IxS c ad λae=>Ar .u64 ae λaf=>Ar .i64 (8*aa) λag=>Nn ag<|Ar .u64 (af*2^(min ag.toNat IntKind.u64.bits)) λah=>Ar .i64 (aa+1) λai=>y (bits .or .u64 z ah) ai ab) (Ar .i64 (aa+1) λaj=>y z aj ab)) (Ar .i64 (v+1) λak=>Ar .i64 (ak*8) λal=>Ar .i64 (o+al) λam=>Ar .i64 z λan=>XM.c a am an ab λao ap=>Ar .i64 (v+1) λaq=>u aq ap)) (e o 0 w))))
theorem Qm.o {a b c d e}(f:Qm.v a b c d e):Qm.c a b c d e:=Wa Tryz.func15 (x:=Qm.h) (R0 f)
def Ql.h:Hn:=.q .o2 (.q (.q .o3 (.q .o2 (.c (.q .o3 .l) .l))) (.q .o8 (.q (.q .o2 (.c (.q .o2 .l) .l)) (.q .o8 (.q (.q (.reg (.seq [.op,.op,.op,.grd false 2 [.op,.op],.op,.grd false 2 [.op,.op],.op,.grd false 8 (RI.ops 8)])) (.c (.q .o2 .l) .l)) (.q .o3 (.q (.q .o3 (.k (.loop [(57,.I)] (.q .o1 (.q (.c .l .l) (.q (.k (.q .o2 (.q (.o 13) (.o 11)))) .o2)))))) (.q .o4 .l))))))))
def Ql.v (a:R2)(b:Int)(c:Hp)(d:ByteArray->Int->Hp->Prop):Prop:=YA.c a ⟨none,0,0⟩ c λe f=>If (e != 0) (d (ByteArray.mk #[]) e f) (Xd.c a b f λg h i=>If (h != 0) (d (ByteArray.mk #[]) 8 i) (Xn.c a b i λj k l=>JnB (λm n=>JnB (λo p=>JnB (λq r=>If q (d (ByteArray.mk #[]) 2 r) (Mk j j 1 5 [.int .u8 0] r λs t=>Xo [(.i .i64)] (λu=>u 0 t) λv (w:Int) x=>If (w<((s.len:Nat):Int)) (Nz 8<|Ar .i64 (w.tdiv 8) λy=>Ar .i64 (y+1) λz=>Ar .i64 (z*8) λaa=>Ar .i64 (b+aa) λab=>Xn.c a ab x λac ad ae=>Ar .u64 ac λaf=>Nz 8 <| Ar .i64 (8*(w.tmod 8)) λag=>Nn ag <| Ar .u8 (af.fdiv (2^(min ag.toNat IntKind.u64.bits))) λah=>Ix s.a s.len w 1 λai=>St1 ai (.int .u8 ah) ae λaj=>Ar .i64 (w+1) λak=>v ak aj) (BtS s x λal=>d al 0 x))) λam=>If o (am true p) (Ar .i64 (j+8) λan=>Ar .i64 (an-1) λao=>Nz 8<|Ar .i64 (ao.tdiv 8) λap=>Ar .i64 (ap+1) λaq=>ZG.c g p λar au=>am (decide (aq>ar)) au)) λav=>If m (av true n) (av (decide (j>400)) n)) λaw=>If (k != 0) (aw true l) (aw (decide (j<0)) l)))
theorem Ql.o {a b c d}(e:Ql.v a b c d):Ql.c a b c d:=Wa Tryz.func16 (x:=Ql.h) (R0 e)
def YA.h:Hn:=.q .o1 (.q (.q (.reg (.seq [.op,.op,.op,.grd false 4 (RI.ops 4)])) (.c (.q .o1 .l) .l)) (.q (.q .o3 (.k (.loop [(17,.I)] (.q .o1 (.q (.c .l .l) (.q (.k (.q .o3 (.q (.q (.reg (.seq [.op,.op,.op,.grd false 5 (RI.ops 5)])) (.c (.q .o1 .l) .l)) (.q .o4 (.c (.q .o1 .l) .l))))) .o2)))))) (.q .o1 .l)))
def YA.v (a:R2)(b:Sl)(c:Hp)(d:Int->Hp->Prop):Prop:=JnB (λe f=>If e (d 1 f) (Xo [(.i .i64)] (λg=>g 0 f) λh (i:Int) j=>If (i<((b.len:Nat):Int)) (Ix b.a b.len i 1 λk=>LdI .i64 k j λl=>JnB (λm n=>If m (d 1 n) (YO.c a l n λo p=>If (!(o.toList==(ByteArray.mk #[]).toList)) (d 5 p) (Ar .i64 (i+1) λq=>h q p))) λr=>If (l<0) (r true j) (XH.c a j λs t u v w x=>r (decide (l≥u)) x)) (d 0 j))) λy=>If a.isNone (y true c) (XH.c a c λz aa ab ac ad ae=>y (z==0) ae)
theorem YA.o {a b c d}(e:YA.v a b c d):YA.c a b c d:=Wa Tryz.func36 (x:=YA.h) (R0 e)
def ZV.h:Hn:=.q .o3 (.q (.q .o2 (.k (.loop [(15,.I)] (.q .o1 (.q (.c .l .l) (.q (.k (.q .o2 (.o 13))) .o2)))))) (.q .o3 (.k (.loop [(33,.I)] (.q .o1 (.q (.c .l .l) (.q (.k (.q .o5 .o7)) .o2)))))))
def ZV.v (a:R2)(b c d:Int)(e:Hp)(f:Hp->Prop):Prop:=Mk d d 8 3 [.I 0] e λg h=>Xo [(.i .i64)] (λi=>i 0 h) λj (k:Int) l=>If (k<d) (Ar .i64 (k*8) λm=>Ar .i64 (c+m) λn=>Xn.c a n l λo p q=>Ix g.a g.len k 1 λr=>St1 r (.I o) q λs=>Ar .i64 (k+1) λt=>j t s) (Xo [(.i .i64)] (λu=>u 0 l) λv (w:Int) x=>If (w<((g.len:Nat):Int)) (Ix g.a g.len w 1 λy=>LdI .i64 y x λz=>Ar .i64 (w*8) λaa=>Ar .i64 (b+aa) λab=>XM.c a ab z x λac ad=>Ar .i64 (w+1) λae=>v ae ad) (f x))
theorem ZV.o {a b c d e f}(g:ZV.v a b c d e f):ZV.c a b c d e f:=Wa Tryz.func40 (x:=ZV.h) (R0 g)
def ZG.h:Hn:=.q .o1 (.q .o3 .l)
def ZG.v (a:Int)(b:Hp)(c:Int->Hp->Prop):Prop:=Nz 8<|Ar .i64 (a.tdiv 8) λd=>c d b
theorem ZG.o {a b c}(d:ZG.v a b c):ZG.c a b c:=Wa Tryz.func41 (x:=ZG.h) (R0 d)
end Go.Proofs
namespace Go.Ar
open Go Go.Vc Go.Proofs
variable {U u w w':Hp}{F B P Q:Rg}{L:LayH}{H:Hw}{t:Nat}{g:Th}
theorem Wjn (u:Value){R:ByteArray->Hp->Prop}(h:We Tryz.prog 320 #[u] [.one .str] U R):InvK Tryz.prog (.iface 176 u) "freehold/heap.name" [] [.one .str] U R :=
 ⟨176,u,320,rfl,λw=>by kernel_rfl,λxs w=>by kernel_rfl,h⟩
theorem Wc7 (u:Value){R:ByteArray->Hp->Prop}(h:We Tryz.prog 324 #[u] [.one .str] U R):InvK Tryz.prog (.iface 186 u) "freehold/heap.name" [] [.one .str] U R :=
 ⟨186,u,324,rfl,λw=>by kernel_rfl,λxs w=>by kernel_rfl,h⟩
theorem Wew (u:Value){R:ByteArray->Hp->Prop}(h:We Tryz.prog 326 #[u] [.one .str] U R):InvK Tryz.prog (.iface 190 u) "freehold/heap.name" [] [.one .str] U R :=
 ⟨190,u,326,rfl,λw=>by kernel_rfl,λxs w=>by kernel_rfl,h⟩
theorem Wj7 (u:Value){R:ByteArray->Hp->Prop}(h:We Tryz.prog 327 #[u] [.one .str] U R):InvK Tryz.prog (.iface 192 u) "freehold/heap.name" [] [.one .str] U R :=
 ⟨192,u,327,rfl,λw=>by kernel_rfl,λxs w=>by kernel_rfl,h⟩
theorem Wky (u:Value){R:ByteArray->Hp->Prop}(h:We Tryz.prog 325 #[u] [.one .str] U R):InvK Tryz.prog (.iface 189 u) "freehold/heap.name" [] [.one .str] U R :=
 ⟨189,u,325,rfl,λw=>by kernel_rfl,λxs w=>by kernel_rfl,h⟩
theorem WhE (u:Value){R:ByteArray->Hp->Prop}(h:We Tryz.prog 321 #[u] [.one .str] U R):InvK Tryz.prog (.iface 178 u) "freehold/heap.name" [] [.one .str] U R :=
 ⟨178,u,321,rfl,λw=>by kernel_rfl,λxs w=>by kernel_rfl,h⟩
theorem Wjl (u:Value){R:ByteArray->Hp->Prop}(h:We Tryz.prog 322 #[u] [.one .str] U R):InvK Tryz.prog (.iface 180 u) "freehold/heap.name" [] [.one .str] U R :=
 ⟨180,u,322,rfl,λw=>by kernel_rfl,λxs w=>by kernel_rfl,h⟩
theorem WlE (u:Value){R:ByteArray->Hp->Prop}(h:We Tryz.prog 328 #[u] [.one .str] U R):InvK Tryz.prog (.iface 197 u) "freehold/heap.name" [] [.one .str] U R :=
 ⟨197,u,328,rfl,λw=>by kernel_rfl,λxs w=>by kernel_rfl,h⟩
theorem WjG (u:Value){R:ByteArray->Hp->Prop}(h:We Tryz.prog 329 #[u] [.one .str] U R):InvK Tryz.prog (.iface 200 u) "freehold/heap.name" [] [.one .str] U R :=
 ⟨200,u,329,rfl,λw=>by kernel_rfl,λxs w=>by kernel_rfl,h⟩
theorem Wks (u:Value){R:ByteArray->Hp->Prop}(h:We Tryz.prog 330 #[u] [.one .str] U R):InvK Tryz.prog (.iface 204 u) "freehold/heap.name" [] [.one .str] U R :=
 ⟨204,u,330,rfl,λw=>by kernel_rfl,λxs w=>by kernel_rfl,h⟩
theorem Wic (u:Value){R:ByteArray->Hp->Prop}(h:We Tryz.prog 323 #[u] [.one .str] U R):InvK Tryz.prog (.iface 182 u) "freehold/heap.name" [] [.one .str] U R :=
 ⟨182,u,323,rfl,λw=>by kernel_rfl,λxs w=>by kernel_rfl,h⟩
def Txt (s:ByteArray):Prop:=(s.toList==(ByteArray.mk #[]).toList)=false
theorem WnO (p:Ph){R:ByteArray->Hp->Prop}(hR:∀s σ',Ext0 U σ'->Txt s->R s σ'):InvK Tryz.prog (phV (some p)) "freehold/heap.name" [] [.one .str] U R := by
 cases p with
 | take k=>
  refine Wjn _ (ZP.o ?_);unfold ZP.v;exact nw (cs:=[.int .i64 (k:Int)]) λv hz e hb=>hR _ v e (by unfold Txt;decide +kernel)
 | transfer k w=>
  refine Wc7 _ (Y5.o ?_);unfold Y5.v;exact nw (cs:=[.int .i64 (k:Int),.int .i64 (w:Int)]) λv hz e hb=>hR _ v e (by unfold Txt;decide +kernel)
 | central k w=>
  refine Wew _ (Zh.o ?_);unfold Zh.v;exact nw (cs:=[.int .i64 (k:Int),.int .i64 (w:Int)]) λv hz e hb=>hR _ v e (by unfold Txt;decide +kernel)
 | grow k w=>
  refine Wj7 _ (ZQ.o ?_);unfold ZQ.v;exact nw (cs:=[.int .i64 (k:Int),.int .i64 (w:Int)]) λv hz e hb=>hR _ v e (by unfold Txt;decide +kernel)
 | fill=>
  refine Wky _ (ZT.o ?_);unfold ZT.v;exact nw (cs:=[]) λv hz e hb=>hR _ v e (by unfold Txt;decide +kernel)
 | large m=>
  refine WhE _ (ZH.o ?_);unfold ZH.v;exact nw (cs:=[.int .i64 (m:Int)]) λv hz e hb=>hR _ v e (by unfold Txt;decide +kernel)
 | find x=>
  refine Wjl _ (ZU.o ?_);unfold ZU.v;exact nw (cs:=[.int .i64 x]) λv hz e hb=>hR _ v e (by unfold Txt;decide +kernel)
 | put k x=>
  refine WlE _ (Z8.o ?_);unfold Z8.v;exact nw (cs:=[.int .i64 (k:Int),.int .i64 x]) λv hz e hb=>hR _ v e (by unfold Txt;decide +kernel)
 | back=>
  refine WjG _ (ZR.o ?_);unfold ZR.v;exact nw (cs:=[]) λv hz e hb=>hR _ v e (by unfold Txt;decide +kernel)
 | give s a=>
  refine Wks _ (ZS.o ?_);unfold ZS.v;exact nw (cs:=[.int .i64 s,.int .i64 a]) λv hz e hb=>hR _ v e (by unfold Txt;decide +kernel)
 | drain=>
  refine Wic _ (ZI.o ?_);unfold ZI.v;exact nw (cs:=[]) λv hz e hb=>hR _ v e (by unfold Txt;decide +kernel)
def V8 (H:Hw)(thread:Int):Option Ph:=if 0<=thread/\thread<(H.ths.length:Int)then(match H.ths[thread.toNat]? with
 | some g=>g.ph
 | none=>none)else none
theorem Wdw (h:HH U F L H)(thread:Int){R:ByteArray->Hp->Prop}(hR:∀s σ',Ext0 U σ'->(s.toList==(ByteArray.mk #[]).toList)=(V8 H thread).isNone->R s σ'):YO.c (some ⟨L.p,0,none⟩) thread U R:=by
 refine YO.o ?_;unfold YO.v;have hnone:V8 H thread=none->R (ByteArray.mk #[]) U:=λhp=>hR _ U (Ext.refl _ _) (by rw[hp];decide +kernel);refine Kh h (QD (λr w=>w=U/\r = !decide (0<=thread/\thread<(H.ths.length:Int))) (λr w ⟨hw,hr⟩=>?_) λJ hJ=>ifF rfl (U2 h thread (hJ _ _ ⟨rfl,rfl⟩)));subst hw;refine QD (λr w2=>w2=w/\r=(V8 H thread).isNone) (λr w2 ⟨hw,hr2⟩=>?_) λJ1 hJ1=>?_
 ·rw[hw];cases hp:V8 H thread with
  | none=>rw[hp]at hr2;exact ifT (by rw[hr2];rfl) (hnone hp)
  | some p=>
   rw[hp]at hr2;have hp':=hp;unfold V8 at hp';split at hp'
   ·rename_i hth;obtain⟨t,rfl⟩:∃t:Nat,thread=(t:Int):=⟨thread.toNat,by omega⟩;have ht:t<H.ths.length:=by omega
    obtain⟨x,g,hx,hg⟩:=h.th ht;rw[iTn,hg]at hp';simp only at hp';refine ifF (by rw[hr2];rfl) (nilP (h.hd.rS rfl (h.tR hx hg ?_)));rw[hp'];exact WnO p λs σ' e ht=>hR s σ' e (by rw[hp];exact ht)
   ·cases hp'
 ·by_cases hth:0<=thread/\thread<(H.ths.length:Int)
  ·obtain⟨t,rfl⟩:∃t:Nat,thread=(t:Int):=⟨thread.toNat,by omega⟩;have ht:t<H.ths.length:=by omega
   obtain⟨x,g,hx,hg⟩:=h.th ht;refine ifF (by rw[hr,zI hth];rfl) (nilP (h.hd.rS rfl (h.tR hx hg ⟨G5 _,hJ1 _ _ ⟨rfl,?_⟩⟩)));rw[WaR];unfold V8;rw[zB hth,iTn,hg]
  ·refine ifT (by rw[hr,zH hth];rfl) (hJ1 _ _ ⟨rfl,?_⟩);unfold V8;rw[zA hth];rfl
def CfOk (H:Hw):Prop:=1<=H.cf.pages/\H.cf.threads=H.ths.length/\TbOk H.tb
def Qp (H:Hw)(thread:Int):Int:=if 0<=thread/\thread<(H.ths.length:Int)then(if V8 H thread=none then 0 else 5)else 1
theorem WcE (h:HH U F L H)(hc:CfOk H){R:Int->Hp->Prop}(hR:∀σ',Ext0 U σ'->R 0 σ'):YA.c (some ⟨L.p,0,none⟩) ⟨none,0,0⟩ U R:=by
 refine YA.o ?_;unfold YA.v;have h1:=hc.1;refine QD (λr w=>Ext0 U w/\r=false) (λr w ⟨ew,hr⟩=>?_) λJ hJ=>ifF rfl (Uw h λσ' e=>hJ _ _ ⟨e,?_⟩)
 ·subst hr;refine ifF rfl (Zx (a:=.i .i64) (λ(z:Int) w=>z=0/\Ext0 U w) (λ_ _=>0) ⟨rfl,ew⟩ ?_);rintro(z:Int) w ⟨rfl,e⟩;exact ifDF (by simp) (hR w e)
 ·rw[zAA];omega
theorem Wds (h:HH U F L H)(hc:CfOk H){b:Nat}{thread:Int}(hb:Blk U b [.int .i64 thread])(hbF:¬F b){R:Int->Hp->Prop}(hR:∀σ',Ext0 U σ'->R (Qp H thread) σ'):YA.c (some ⟨L.p,0,none⟩) ⟨some ⟨b,0,none⟩,1,1⟩ U R:=by
 refine YA.o ?_;unfold YA.v;obtain⟨h1,h2,_⟩:=hc;refine QD (λr w=>Ext0 U w/\r=false) (λr w ⟨ew,hr⟩=>?_) λJ hJ=>ifF rfl (Uw h λσ' e=>hJ _ _ ⟨e,by rw[zAA];omega⟩);subst hr;refine ifF rfl (Zx (a:=.i .i64) (λ(z:Int) w=>Ext0 U w/\(z=0\/z=1/\Qp H thread=0)) (λz _=>1-z.toNat) ⟨ew,.inl rfl⟩ ?_);rintro(z:Int) w ⟨e,hz⟩;rcases hz with rfl|⟨rfl,h0⟩
 ·have hb':=e.blk hb id;have h':=h.keep0 e;refine ifDT (by simp) (ix (zDS _) (by show(0:Int)<((1:Nat):Int);decide) ?_);rw[add_lit];refine hb'.rI0 rfl ?_;refine QD (λr w2=>Ext0 w w2/\r = !decide (0<=thread/\thread<(H.ths.length:Int))) (λr w2 ⟨e2,hr⟩=>?_) λJ2 hJ2=>?_
  ·by_cases hth:0<=thread/\thread<(H.ths.length:Int)
   ·rw[zI hth]at hr;refine ifF (by rw[hr];rfl) (Wdw (h'.keep0 e2) thread λs v3 e3 hs=>?_);rw[hs];have hre:Qp H thread=if V8 H thread=none then 0 else 5:=by unfold Qp;rw[zB hth]
    cases hp:V8 H thread with
    | none=>
     rw[hp]at hre;exact ifF rfl (arN (m:=1) (by omega) (by omega) ⟨⟨(e.trans e2).trans e3,.inr ⟨rfl,by rw[hre];rfl⟩⟩,by decide⟩)
    | some p=>
     rw[hp]at hre;have:=hR v3 ((e.trans e2).trans e3);rw[hre]at this;exact ifT rfl this
   ·rw[zH hth]at hr;have:=hR w2 (e.trans e2);unfold Qp at this;rw[zA hth]at this;exact ifT (by rw[hr];rfl) this
  ·refine ifD (λhn=>hJ2 _ _ ⟨Ext.refl _ _,?_⟩) λhn=>Uw h' λv2 e2=>hJ2 _ _ ⟨e2,?_⟩
   ·rw[zH (by omega)];rfl
   ·by_cases hge:thread≥(H.cf.threads:Int)
    ·rw[zI hge,zH (by omega)];rfl
    ·rw[zH hge,zI (by omega)];rfl
 ·have:=hR w e;rw[h0]at this;exact ifDF (by simp) this
end Go.Ar
namespace Go.Ar
open Go Go.Vc Go.Proofs
open Go.Bu (isPow)
variable {U u w w':Hp}{F B P Q:Rg}{L:LayH}{H H':Hw}{t:Nat}{g:Th}
def Va (H:Hw)(thread kind size align addr:Int)(H':Hw)(a e:Int):Prop:=
 (Kr H thread kind size align addr=.inl e/\e≠0/\H'=H/\a=0)\/∃t p n,Kr H thread kind size align addr=.inr (t,p)/\RunN n (setPh H t (some p)) t p H' a e
theorem Wax (hso:UW)(h:HH U F L H)(hv:TbOk H.tb){thread kind size align addr:Int}{a e:Int}(hw:Va H thread kind size align addr H' a e){R:Int->Int->Hp->Prop}
 (hR:∀σ' ts',Ext F U σ'->HH σ' (Grow F U) {L with ts:=ts'} H'->R a e σ'):XT.c (some ⟨L.p,0,none⟩) thread kind size align addr U R:=by
 rcases hw with⟨hs,hne,rfl,rfl⟩|⟨t,p,n,hs,hr⟩
 ·exact WcD hso h hv thread kind size align addr (λe' he _ σ' ee hh=>by
   rw[hs]at he;cases he;exact hR σ' L.ts ee hh) λt p he=>by rw[hs]at he;cases he
 ·exact WcD hso h hv thread kind size align addr (λe' he=>by rw[hs]at he;cases he) λt' p' he=>by
   rw[hs]at he;cases he;exact⟨n,H',a,e,hr,hR⟩
theorem KR (hso:UW)(h:HH U F L H)(hv:TbOk H.tb){thread size align:Int}{a e:Int}(hw:Va H thread 0 size align 0 H' a e){R:Int->Int->Hp->Prop}
 (hR:∀σ' ts',Ext F U σ'->HH σ' (Grow F U) {L with ts:=ts'} H'->R a e σ'):Xr.c (some ⟨L.p,0,none⟩) thread size align U R:=by
 refine Xr.o ?_;unfold Xr.v;exact Wax hso h hv hw hR
theorem WbK (hso:UW)(h:HH U F L H)(hv:TbOk H.tb){thread addr:Int}{a e:Int}(hw:Va H thread 1 0 0 addr H' a e){R:Int->Hp->Prop}
 (hR:∀σ' ts',Ext F U σ'->HH σ' (Grow F U) {L with ts:=ts'} H'->R e σ'):YQ.c (some ⟨L.p,0,none⟩) thread addr U R:=by
 refine YQ.o ?_;unfold YQ.v;exact Wax hso h hv hw hR
theorem WhP (hso:UW)(h:HH U F L H)(hv:TbOk H.tb){thread:Int}{a e:Int}(hw:Va H thread 2 0 0 0 H' a e){R:Int->Hp->Prop}
 (hR:∀σ' ts',Ext F U σ'->HH σ' (Grow F U) {L with ts:=ts'} H'->R e σ'):Zc.c (some ⟨L.p,0,none⟩) thread U R:=by
 refine Zc.o ?_;unfold Zc.v;exact Wax hso h hv hw hR
def Z3 (H' H:Hw):Prop:=H'.tb=H.tb/\H'.cf=H.cf/\H'.ths.length=H.ths.length/\H'.ars.length=H.ars.length
theorem Z3.refl (H:Hw):Z3 H H:=⟨rfl,rfl,rfl,rfl⟩
theorem Z3.trans {H1 H2 H3:Hw}(a:Z3 H2 H1)(b:Z3 H3 H2):Z3 H3 H1:=⟨b.1.trans a.1,b.2.1.trans a.2.1,b.2.2.1.trans a.2.2.1,b.2.2.2.trans a.2.2.2⟩
theorem Q2 (H:Hw)(t:Nat)(f:Th->Th):Z3 (H.setT t f) H:=⟨rfl,rfl,by simp[Hw.setT],rfl⟩
theorem Qc (H:Hw)(k:Nat)(A:AR)(sp:Sp):Z3 {H.setA k A with sp:=sp} H:=⟨rfl,rfl,rfl,by simp[Hw.setA]⟩
theorem Wd6 (H:Hw)(k:Nat)(part:Nat->List Int)(j:Nat):Z3 (Vd H k part (List.range j)) H:=by
 induction j with
 | zero=>exact Z3.refl H
 | succ j ih=>
  rw[KZ];split
  ·split
   ·exact ih
   ·exact ih.trans (Qc _ _ _ _)
  ·exact ih
theorem Wif (H:Hw)(own k:Nat)(xs:List Int):Z3 (HN H own k xs) H:=by
 unfold HN;split
 ·split
  ·exact Qc _ _ _ H.sp
  ·refine Z3.trans ?_ (Wd6 _ _ _ _);split
   ·exact Qc _ _ _ H.sp
   ·exact Z3.refl H
 ·exact Z3.refl H
theorem WjJ (H:Hw)(t k:Nat)(x:Int):Z3 (putH H t k x) H:=by
 unfold putH;simp only;split<;>split<;>exact⟨rfl,rfl,by simp[Hw.setT,QM],rfl⟩
theorem Whk (H:Hw)(t:Nat)(p:Ph):Z3 (Wt H t p).1 H:=by
 cases p with
 | take k=>simp only[Wt];split<;>exact⟨rfl,rfl,by simp[VC,QM,Hw.setT,Hw.setA],by simp[VC,QM,Hw.setT,Hw.setA]⟩
 | transfer k w=>
  simp only[Wt];split
  ·split
   ·exact(Qc _ _ _ H.sp).trans (Q2 _ _ _)
   ·exact Z3.refl H
  ·exact Z3.refl H
 | central k w=>
  simp only[Wt];split
  ·exact Qc _ _ _ H.sp
  ·exact(Qc _ _ _ H.sp).trans (Q2 _ _ _)
 | grow k w=>simp only[Wt];split<;>exact Qc _ _ _ _
 | fill=>
  simp only[Wt];split
  ·exact⟨rfl,rfl,by simp[VC,QM,Hw.setT,Hw.setA],by simp[VC,QM,Hw.setT,Hw.setA]⟩
  ·exact Z3.refl H
 | large m=>simp only[Wt];split<;>exact⟨rfl,rfl,by simp[VC,QM,Hw.setT,Hw.setA],by simp[VC,QM,Hw.setT,Hw.setA]⟩
 | find x=>
  simp only[Wt,U0];split
  ·exact Z3.refl H
  ·split
   ·exact⟨rfl,rfl,rfl,rfl⟩
   ·exact Z3.trans (H2:={H with live:=Go.Vc.mdel H.live x}) ⟨rfl,rfl,rfl,rfl⟩ (Q2 _ _ _)
 | put k x=>exact WjJ H t k x
 | back=>
  simp only[Wt];split
  ·exact(Q2 _ _ _).trans (Wif _ _ _ _)
  ·exact Z3.refl H
 | give s a=>
  simp only[Wt];split
  ·exact Qc _ _ _ H.sp
  ·exact Z3.refl H
 | drain=>exact Q2 _ _ _
theorem Uy (H:Hw)(t:Nat)(p:Ph):Z3 (QC H t p) H:=(Whk H t p).trans (Q2 _ _ _)
theorem Wb4 {n:Nat}{H H':Hw}{t:Nat}{p:Ph}{a e:Int}(h:RunN n H t p H' a e):Z3 H' H:=by
 induction h with
 | done=>exact Uy _ _ _
 | next _ _ _ ih=>exact(Uy _ _ _).trans ih
theorem VJ {thread kind size align addr a e:Int}(h:Va H thread kind size align addr H' a e):Z3 H' H:=by
 rcases h with⟨_,_,rfl,_⟩|⟨t,p,n,_,hr⟩
 ·exact Z3.refl _
 ·exact(Q2 _ _ _).trans (Wb4 hr)
theorem CfOk.keep (h:CfOk H)(k:Z3 H' H):CfOk H':=⟨by rw[k.2.1];exact h.1,by rw[k.2.1,k.2.2.1];exact h.2.1,by rw[k.1];exact h.2.2⟩
end Go.Ar
namespace Go.Ar
variable {c:Cls}{ss:List SpA}
structure CenOk (c:Cls) (ss:List SpA):Prop where
 ok:c.ok
 tk:∀s∈ss,s.tk.length=c.n
 far:ss.Pairwise λa b=>a.st+c.pages<=b.st
def Tk (c:Cls)(ss:List SpA)(x:Int):Prop:=isTk c ss x=some true
def Cov (c:Cls)(ss:List SpA)(p:Nat):Prop:=∃s∈ss,s.st<=p/\p<s.st+c.pages
theorem CenOk.pos (h:CenOk c ss):0<c.size:=by have:=h.ok;unfold Cls.ok at this;omega
theorem CenOk.pg (h:CenOk c ss):1<=c.pages:=by have:=h.ok;unfold Cls.ok at this;omega
theorem CenOk.srt (h:CenOk c ss):ss.Pairwise λa b=>a.st<b.st:=h.far.imp λ{a b} hab=>by have:=h.pg;omega
theorem CenOk.dis (h:CenOk c ss){i j:Nat}{s t:SpA}(hi:ss[i]?=some s)(hj:ss[j]?=some t)(hij:i<j):s.st+c.pages<=t.st:=by
 obtain⟨h1,rfl⟩:=gSi.1 hi;obtain⟨h2,rfl⟩:=gSi.1 hj;exact zAI.1 h.far i j h1 h2 hij
theorem CenOk.cov1 (h:CenOk c ss){i j:Nat}{s t:SpA}{p:Nat}(hi:ss[i]?=some s)(hj:ss[j]?=some t)(h1:s.st<=p)(h2:p<s.st+c.pages)(h3:t.st<=p)(h4:p<t.st+c.pages):i=j:=by
 rcases zBT i j with hl|hl|hl
 ·have:=h.dis hi hj hl;omega
 ·exact hl
 ·have:=h.dis hj hi hl;omega
theorem Wn2 (hp:0<c.size){s:SpA}{i:Nat}(hi:i<c.n):s.st*256<=at_ c s i/\at_ c s i+c.size<=(s.st+c.pages)*256:=by
 have h1:=Cls.n_mul c;have h2:(i+1)*c.size<=c.n*c.size:=zAD _ hi;unfold at_;rw[zi]at h2;omega
theorem HO (hp:0<c.size){s:SpA}{i x:Nat}(hi:i<c.n)(h1:at_ c s i<=x)(h2:x<at_ c s i+c.size):s.st<=x/256/\x/256<s.st+c.pages:=by
 have:=Wn2 hp (s:=s) hi;omega
theorem Ud (h:CenOk c ss){k l:Nat}{s t:SpA}{i j x:Nat}(hk:ss[k]?=some s)(hl:ss[l]?=some t)(hi:i<c.n)(hj:j<c.n)(h1:at_ c s i<=x)(h2:x<at_ c s i+c.size)(h3:at_ c t j<=x)(h4:x<at_ c t j+c.size):k=l/\s=t/\i=j:=by
 have p1:=HO h.pos hi h1 h2;have p2:=HO h.pos hj h3 h4;have e:=h.cov1 hk hl p1.1 p1.2 p2.1 p2.2;subst e;rw[hk]at hl;cases hl;refine⟨rfl,rfl,?_⟩;unfold at_ at *;have hc:=h.pos;rcases zBT i j with hl|hl|hl
 ·have:(i+1)*c.size<=j*c.size:=zAD _ hl;rw[zi]at this;omega
 ·exact hl
 ·have:(j+1)*c.size<=i*c.size:=zAD _ hl;rw[zi]at this;omega
theorem WiQ (h:CenOk c ss){s:SpA}(hs:s∈ss){x:Int}{i:Nat}(hi:idx c s x=some i):i<c.n/\((s.st*256:Nat):Int)<=x/\x<(((s.st+c.pages)*256:Nat):Int)/\((at_ c s i:Nat):Int)<=x/\x<((at_ c s i+c.size:Nat):Int):=by
 obtain⟨h1,h2,h3⟩:=(V2 h.pos).1 hi;rw[h.tk s hs]at h3;have:=Wn2 h.pos (s:=s) h3;have e:at_ c s (i+1)=at_ c s i+c.size:=by unfold at_;rw[zi];omega
 rw[e]at h2;omega
theorem WkZ (h:CenOk c ss){k:Nat}{s:SpA}{x:Int}{i:Nat}(hs:ss[k]?=some s)(hi:idx c s x=some i):ofS c ss x=some k:=by
 obtain⟨hk,hse⟩:=gSi.1 hs;refine zBC.2 ⟨hk,by rw[hse,hi];rfl,λj hj hp=>?_⟩;have hjl:j<ss.length:=by omega
 obtain⟨i',hi'⟩:=zBU.1 hp;have a:=WiQ h (zD hs) hi;have b:=WiQ h (zk hjl) hi';have:=h.dis (gGe hjl) hs hj;omega
theorem Wft (h:CenOk c ss){x:Int}{b:Bool}:isTk c ss x=some b↔∃(k:Nat) (s:SpA) (i:Nat),ss[k]?=some s/\i<c.n/\x=((at_ c s i:Nat):Int)/\s.is i=b:=by
 constructor
 ·intro hx;obtain⟨k,s,i,_,hs,ho,hb⟩:=Gz hx;obtain⟨h1,h2⟩:=(UA h.pos).1 ho;rw[h.tk s (zD hs)]at h2;exact⟨k,s,i,hs,h2,h1,hb⟩
 ·rintro⟨k,s,i,hs,hi,rfl,hb⟩;have hl:=h.tk s (zD hs);have ho:obj c s ((at_ c s i:Nat):Int)=some i:=(UA h.pos).2 ⟨rfl,by omega⟩;have hid:idx c s ((at_ c s i:Nat):Int)=some i:=(V2 h.pos).2 ⟨zDS _,by have:=h.pos;unfold at_;rw[zi];omega,by omega⟩;rw[VF (WkZ h hs hid) hs,ho,←hb];rfl
theorem V7 (h:CenOk c ss){x:Int}:Tk c ss x↔∃(k:Nat) (s:SpA) (i:Nat),ss[k]?=some s/\i<c.n/\x=((at_ c s i:Nat):Int)/\s.is i=true:=Wft h
theorem WcO (h:CenOk c ss){x:Int}{a:Nat}:Wb3 c ss x=some a↔∃(k:Nat) (s:SpA) (i:Nat),ss[k]?=some s/\i<c.n/\a=at_ c s i/\((at_ c s i:Nat):Int)<=x/\x<((at_ c s i+c.size:Nat):Int):=by
 constructor
 ·intro hf;cases ho:ofS c ss x with
  | none=>rw[Wbt ho]at hf;cases hf
  | some k=>
   have hk:=(zBC.1 ho).1;have hs:ss[k]?=some ss[k]:=gGe hk;rw[HC ho hs]at hf;obtain⟨i,hi,rfl⟩:=zBV.1 hf;have:=WiQ h (zD hs) hi;exact⟨k,_,i,hs,this.1,rfl,this.2.2.2.1,this.2.2.2.2⟩
 ·rintro⟨k,s,i,hs,hi,rfl,h1,h2⟩;have hl:=h.tk s (zD hs);have e:at_ c s (i+1)=at_ c s i+c.size:=by unfold at_;rw[zi];omega
  have hid:idx c s x=some i:=(V2 h.pos).2 ⟨h1,by rw[e];exact h2,by omega⟩;rw[HC (WkZ h hs hid) hs,hid];rfl
theorem CenOk.put (h:CenOk c ss){k i:Nat}{s:SpA}(hs:ss[k]?=some s)(v:Bool):CenOk c (ss.set k (s.put i v)):=by
 have hk:=(gSi.1 hs).1;refine⟨h.ok,λt ht=>?_,?_⟩
 ·rcases zEL ht with ht|rfl
  ·exact h.tk t ht
  ·rw[show(s.put i v).tk.length=s.tk.length by simp[SpA.put]];exact h.tk s (zD hs)
 ·rw[zAI];intro a b ha hb hab;have ha':a<ss.length:=by simpa using ha
  have hb':b<ss.length:=by simpa using hb
  have hst:∀j (hj:j<(ss.set k (s.put i v)).length) (hj':j<ss.length),(ss.set k (s.put i v))[j].st=ss[j].st:=by
   intro j hj hj';rw[List.getElem_set];split
   ·rename_i e;subst e;have:ss[k]=s:=(gSi.1 hs).2;rw[this];rfl
   ·rfl
  rw[hst a ha ha',hst b hb hb'];exact zAI.1 h.far a b ha' hb' hab
theorem Wa6 {k i:Nat}{s:SpA}(hs:ss[k]?=some s)(v:Bool):(ss.set k (s.put i v)).map (·.st)=ss.map (·.st):=by
 apply zm;intro j;simp only[zg];by_cases hjk:j=k
 ·subst hjk;rw[zK (gSi.1 hs).1,hs];rfl
 ·rw[zd (Ne.symm hjk)]
theorem Wh0 {s:SpA}{i j:Nat}{v:Bool}(hi:i<s.tk.length):(s.put i v).is j=if j=i then v else s.is j:=by
 unfold SpA.is SpA.put;simp only[zL];by_cases hj:j=i
 ·subst hj;rw[zK hi,zB rfl];rfl
 ·rw[zd (Ne.symm hj),zA hj]
theorem Wk5 (h:CenOk c ss){k i:Nat}{s:SpA}(hs:ss[k]?=some s)(hi:i<c.n)(v:Bool){y:Int}:Tk c (ss.set k (s.put i v)) y↔(y=((at_ c s i:Nat):Int)/\v=true)\/(y≠((at_ c s i:Nat):Int)/\Tk c ss y):=by
 have hk:=(gSi.1 hs).1;have hl:=h.tk s (zD hs);have hc:=h.pos;rw[V7 (h.put hs v),V7 h];constructor
 ·rintro⟨l,t,j,ht,hj,rfl,hb⟩;by_cases hlk:l=k
  ·subst hlk;rw[zK hk]at ht;cases ht;rw[Wh0 (by omega)]at hb;by_cases hji:j=i
   ·subst hji;rw[zB rfl]at hb;exact .inl ⟨rfl,hb⟩
   ·rw[zA hji]at hb;refine .inr ⟨λe=>hji ?_,l,s,j,hs,hj,rfl,hb⟩;have e':at_ c s j=at_ c s i:=by have:=Int.ofNat.inj e;exact this
    exact(Ud h hs hs hj hi (zC _) (by omega) (by omega) (by omega)).2.2
  ·rw[zd (Ne.symm hlk)]at ht;refine .inr ⟨λe=>hlk ?_,l,t,j,ht,hj,rfl,hb⟩;have e':at_ c t j=at_ c s i:=Int.ofNat.inj e;exact(Ud h ht hs hj hi (zC _) (by omega) (by omega) (by omega)).1
 ·rintro(⟨rfl,rfl⟩|⟨hne,l,t,j,ht,hj,rfl,hb⟩)
  ·exact⟨k,s.put i true,i,zK hk,hi,rfl,by rw[Wh0 (by omega),zB rfl]⟩
  ·by_cases hlk:l=k
   ·subst hlk;rw[hs]at ht;cases ht;have hji:j≠i:=λe=>hne (by rw[e]);exact⟨l,s.put i v,j,zK hk,hj,rfl,by rw[Wh0 (by omega),zA hji];exact hb⟩
   ·exact⟨l,t,j,(zd (Ne.symm hlk)).trans ht,hj,rfl,hb⟩
theorem Whq {p:Nat}:Cov c ss p↔∃x∈ss.map (·.st),x<=p/\p<x+c.pages:=by
 constructor
 ·rintro⟨s,hs,h⟩;exact⟨_,zE.2 ⟨s,hs,rfl⟩,h⟩
 ·rintro⟨x,hx,h⟩;obtain⟨s,hs,rfl⟩:=zE.1 hx;exact⟨s,hs,h⟩
theorem Wnc {ss':List SpA}(e:ss'.map (·.st)=ss.map (·.st)){p:Nat}:Cov c ss' p↔Cov c ss p:=by rw[Whq,Whq,e]
theorem WhB (h:CenOk c ss){x:Nat}{ss':List SpA}(ho:oneS c ss=some (x,ss')):CenOk c ss'/\ss'.map (·.st)=ss.map (·.st)/\¬Tk c ss (x:Int)/\∀y,Tk c ss' y↔y=(x:Int)\/Tk c ss y:=by
 unfold oneS at ho;split at ho
 ·rename_i k hk;obtain⟨_,s,hs,hsm⟩:=QR hk;rw[hs]at ho;simp only at ho;split at ho
  ·rename_i i hi;cases ho;obtain⟨r,hr,hrl,hri⟩:=GK hsm;rw[hi]at hr;cases hr;have hin:i<c.n:=by rw[←h.tk s (zD hs)];exact hrl
   have hnot:¬Tk c ss ((at_ c s i:Nat):Int):=λht=>by
    have h1:=(Wft h (x:=((at_ c s i:Nat):Int)) (b:=false)).2 ⟨k,s,i,hs,hin,rfl,hri⟩;unfold Tk at ht;rw[h1]at ht;cases ht
   refine⟨h.put hs true,Wa6 hs true,hnot,λy=>?_⟩;rw[Wk5 h hs hin];constructor
   ·rintro(⟨e,_⟩|⟨_,ht⟩)
    ·exact .inl e
    ·exact .inr ht
   ·rintro(e|ht)
    ·exact .inl ⟨e,rfl⟩
    ·exact .inr ⟨λe=>hnot (e▸ht),ht⟩
  ·cases ho
 ·cases ho
theorem HT:∀(m:Nat) {ss:List SpA},CenOk c ss->CenOk c (Q7 c m ss).2/\(Q7 c m ss).2.map (·.st)=ss.map (·.st)/\(Q7 c m ss).1.length<=m/\(Q7 c m ss).1.Nodup/\(∀x∈(Q7 c m ss).1,¬Tk c ss (x:Int))/\∀y,Tk c (Q7 c m ss).2 y↔(∃x∈(Q7 c m ss).1,y=((x:Nat):Int))\/Tk c ss y
 | 0,ss,h=>⟨h,rfl,zC _,zDC,by simp[Q7],by simp[Q7]⟩
 | m+1,ss,h=>by
  cases ho:oneS c ss with
  | none=>
   have e:Q7 c (m+1) ss=([],ss):=by simp[Q7,ho]
   rw[e];exact⟨h,rfl,by simp,zDC,by simp,by simp⟩
  | some r=>
   obtain⟨x,ss'⟩:=r;rw[HZ ho];obtain⟨h1,h2,h3,h4⟩:=WhB h ho;obtain⟨i1,i2,i3,i4,i5,i6⟩:=HT m h1;refine⟨i1,i2.trans h2,by simp;omega,zq.2 ⟨λhx=>i5 x hx ((h4 _).2 (.inl rfl)),i4⟩,?_,λy=>?_⟩
   ·intro y hy;rcases zR.1 hy with rfl|hy
    ·exact h3
    ·exact λht=>i5 y hy ((h4 _).2 (.inr ht))
   ·rw[i6,h4];simp only[zR,exists_eq_or_imp];constructor
    ·rintro(h|h|h)
     ·exact .inl (.inr h)
     ·exact .inl (.inl h)
     ·exact .inr h
    ·rintro((h|h)|h)
     ·exact .inr (.inl h)
     ·exact .inl h
     ·exact .inr (.inr h)
theorem WcP:∀(xs:List Int) {ss:List SpA},CenOk c ss->AllT c ss xs->CenOk c (xs.foldl (put1 c) ss)/\(xs.foldl (put1 c) ss).map (·.st)=ss.map (·.st)/\∀y,Tk c (xs.foldl (put1 c) ss) y↔Tk c ss y/\y∉xs
 | [],ss,h,_=>⟨h,rfl,by simp⟩
 | x::xs,ss,h,hA=>by
  have hx:=hA.1 x (by simp);obtain⟨k,s,i,hk,hs,ho,_⟩:=Gz hx;obtain⟨h1,h2⟩:=(UA h.pos).1 ho;rw[h.tk s (zD hs)]at h2;have e:=WbO hk hs ho;have hp:=h.put hs false (i:=i);have hA':=hA.next h.pos;obtain⟨i1,i2,i3⟩:=WcP xs (ss:=put1 c ss x) (by rw[e];exact hp) hA';rw[zAB];refine⟨i1,i2.trans (by rw[e];exact Wa6 hs false),λy=>?_⟩;rw[i3,e,Wk5 h hs h2,←h1];simp only[za,and_false,false_or,zR,not_or];constructor
  ·rintro⟨⟨h1,h2⟩,h3⟩;exact⟨h2,h1,h3⟩
  ·rintro⟨h2,h1,h3⟩;exact⟨⟨h1,h2⟩,h3⟩
theorem Whx {s:SpA}(h0:s.many=0)(i:Nat):s.is i=false:=by
 unfold SpA.many at h0;rw[zEM]at h0;unfold SpA.is;rw[zL];cases hi:s.tk[i]? with
 | none=>rfl
 | some b=>
  cases b
  ·rfl
  ·exact absurd (zD hi) h0
theorem CenOk.sweep (h:CenOk c ss):CenOk c (Go.Ar.sweep ss):=⟨h.ok,λs hs=>h.tk s (zG.1 hs).1,h.far.filter _⟩
theorem Wfc (h:CenOk c ss){y:Int}:Tk c (sweep ss) y↔Tk c ss y:=by
 rw[V7 h.sweep,V7 h];constructor
 ·rintro⟨k,s,i,hs,hi,rfl,hb⟩;obtain⟨l,hl⟩:=zM (zG.1 (zD hs)).1;exact⟨l,s,i,hl,hi,rfl,hb⟩
 ·rintro⟨k,s,i,hs,hi,rfl,hb⟩;have:s∈sweep ss:=zG.2 ⟨zD hs,by
   have:s.many≠0:=λh0=>by rw[Whx h0 i]at hb;cases hb
   simpa using this⟩
  obtain⟨l,hl⟩:=zM this;exact⟨l,s,i,hl,hi,rfl,hb⟩
theorem G9 {x:Nat}:x∈Z6 ss↔∃s∈ss,s.many=0/\s.st=x:=by
 unfold Z6;simp only[zE,zG,zY,and_assoc]
theorem Wdq (h:CenOk c ss){p:Nat}:Cov c (sweep ss) p↔Cov c ss p/\¬∃x∈Z6 ss,x<=p/\p<x+c.pages:=by
 constructor
 ·rintro⟨s,hs,h1,h2⟩;have hm:=zG.1 hs;refine⟨⟨s,hm.1,h1,h2⟩,?_⟩;rintro⟨x,hx,h3,h4⟩;obtain⟨t,ht,h0,rfl⟩:=G9.1 hx;obtain⟨i,hi⟩:=zM hm.1;obtain⟨j,hj⟩:=zM ht;have e:=h.cov1 hi hj h1 h2 h3 h4;subst e;rw[hi]at hj;cases hj;simp[h0]at hm
 ·rintro⟨⟨s,hs,h1,h2⟩,hn⟩;refine⟨s,zG.2 ⟨hs,?_⟩,h1,h2⟩;have:s.many≠0:=λh0=>hn ⟨s.st,G9.2 ⟨s,hs,h0,rfl⟩,h1,h2⟩;simpa using this
theorem WiT (h:CenOk c ss):(Z6 ss).Pairwise λa b=>a+c.pages<=b:=by
 unfold Z6;rw[zDQ];exact h.far.filter _
theorem Vt {st:Nat}{t:SpA}:t∈addS c ss st↔t=⟨st,List.replicate c.n false⟩\/t∈ss:=by
 unfold addS;rw[zS,zR];have:t∈ss↔t∈ss.takeWhile (λs=>decide (s.st<st))\/t∈ss.dropWhile (λs=>decide (s.st<st)):=by
  rw[←zS,zGH]
 rw[this];constructor
 ·rintro(h|h|h)
  ·exact .inr (.inl h)
  ·exact .inl h
  ·exact .inr (.inr h)
 ·rintro(h|h|h)
  ·exact .inr (.inl h)
  ·exact .inl h
  ·exact .inr (.inr h)
theorem Whm (h:CenOk c ss){st:Nat}(hd:∀s∈ss,s.st+c.pages<=st\/st+c.pages<=s.st):CenOk c (addS c ss st):=by
 refine⟨h.ok,λs hs=>?_,?_⟩
 ·rcases Vt.1 hs with rfl|hs
  ·simp
  ·exact h.tk s hs
 ·have hpl:=HW h.srt st;have hpg:=h.pg;rw[WaL];refine zBO.2 ⟨h.far.sublist (zGB _ _),zAY.2 ⟨λb hb=>?_,h.far.sublist (zGD _ _)⟩,λa ha b hb=>?_⟩
  ·obtain⟨i,hi⟩:=zM hb;rw[zj]at hi;have:=hpl.2 _ _ hi;rcases hd b (zCE hb)with h1|h1
   ·omega
   ·exact h1
  ·obtain⟨i,hi⟩:=zM ha;rw[zX]at hi;split at hi
   ·rename_i hlt;rcases zR.1 hb with rfl|hb
    ·have:=(hpl.2 _ _ hi).2 hlt;rcases hd a (zD hi)with h1|h1
     ·exact h1
     ·omega
    ·obtain⟨j,hj⟩:=zM hb;rw[zj]at hj;exact h.dis hi hj (by omega)
   ·cases hi
theorem WgL (h:CenOk c ss){st:Nat}(hd:∀s∈ss,s.st+c.pages<=st\/st+c.pages<=s.st){y:Int}:Tk c (addS c ss st) y↔Tk c ss y:=by
 rw[V7 (Whm h hd),V7 h];constructor
 ·rintro⟨k,s,i,hs,hi,rfl,hb⟩;rcases Vt.1 (zD hs)with rfl|hm
  ·have:(⟨st,List.replicate c.n false⟩:SpA).is i=false:=Whx (by simp[SpA.many,zFB]) i;rw[this]at hb;cases hb
  ·obtain⟨l,hl⟩:=zM hm;exact⟨l,s,i,hl,hi,rfl,hb⟩
 ·rintro⟨k,s,i,hs,hi,rfl,hb⟩;obtain⟨l,hl⟩:=zM (Vt.2 (.inr (zD hs)):s∈addS c ss st);exact⟨l,s,i,hl,hi,rfl,hb⟩
theorem Wkp {st:Nat}(hd:∀s∈ss,s.st+c.pages<=st\/st+c.pages<=s.st):Gs c ss st=0:=by
 unfold Gs;rw[zA];simp only[zz,zP,not_exists,not_and];intro s hs hlt;rcases hd s hs with h|h<;>omega
end Go.Ar
namespace Go.Ar
open Go.Bu (Y3 QL runS Zf WaY allF KY V5 give take Kj Ki Bounded)
def gf (st:List Nat)(p:Nat):Nat:=st.getD p 0
def AR.f (A:AR)(p:Nat):Nat:=gf A.st p
def inR (rs:List (Nat×Nat))(p:Nat):Prop:=∃r∈rs,r.1<=p/\p<r.1+r.2
theorem Wne {st:List Nat}{p:Nat}(h:gf st p≠0):p<st.length:=by
 apply Classical.byContradiction;intro hn;exact h (by unfold gf;rw[zL,zU (by omega)];rfl)
theorem He {st:List Nat}{a b v p:Nat}(hb:b<=st.length):gf (setR st a b v) p=if a<=p/\p<b then v else gf st p:=by
 unfold gf;rw[zL,zL,U8];by_cases hp:p<st.length
 ·rw[gGe hp];simp only[zc,zBH]
 ·rw[zU (by omega),zA (by omega)];rfl
theorem Vb {n a m:Nat}:Y3 n (a:Int) (m:Int)=true↔1<=m/\a+m<=n:=by
 simp only[Y3,zF,zP];omega
theorem Wdp {st:List Nat}{a m:Nat}{fr:List Nat}(hl:a+m<=st.length):Wgr st a m fr=true↔∀p,a<=p->p<a+m->gf st p∈fr:=by
 unfold Wgr;rw[zu];constructor
 ·intro h p h1 h2;have hp:p<st.length:=by omega
  have:st[p]∈(st.drop a).take m:=by
   refine zD (i:=p-a) ?_;rw[zX,zB (by omega),zj,show a+(p-a)=p by omega,gGe hp]
  have:=h _ this;unfold gf;rw[zL,gGe hp];simpa using this
 ·intro h x hx;obtain⟨i,hi⟩:=zM hx;rw[zX]at hi;split at hi
  ·rename_i hlt;rw[zj]at hi;have:=h (a+i) (by omega) (by omega);unfold gf at this;rw[zL,hi]at this;simpa using this
  ·cases hi
theorem WbS {st:List Nat}{a m v:Nat}{fr:List Nat}(h1:1<=m)(hl:a+m<=st.length)(h:∀p,a<=p->p<a+m->gf st p∈fr):VM st (a:Int) (m:Int) v fr=setR st a (a+m) v:=by
 unfold VM Gm;rw[zB (Vb.2 ⟨h1,hl⟩),iTn,iTn,(Wdp hl).2 h];rfl
theorem WhV {st:List Nat}{a m v:Nat}(hl:a+m<=st.length):Wku st a m v=false↔∀p,a<=p->p<a+m->gf st p≠v:=by
 have:=Wdp (fr:=[v]) hl;unfold Wku;constructor
 ·intro h p h1 h2 e;have hp:p<st.length:=by omega
  have hm:st[p]∈(st.drop a).take m:=by
   refine zD (i:=p-a) ?_;rw[zX,zB (by omega),zj,show a+(p-a)=p by omega,gGe hp]
  have e':st[p]=v:=by
   unfold gf at e;rw[zL,gGe hp]at e;exact e
  rw[e']at hm;rw[zCW.2 hm]at h;cases h
 ·intro h;apply zBB.2;intro hc;obtain⟨i,hi⟩:=zM (zCW.1 hc);rw[zX]at hi;split at hi
  ·rename_i hlt;rw[zj]at hi;refine h (a+i) (by omega) (by omega) ?_;unfold gf;rw[zL,hi];rfl
  ·cases hi
structure PG (A:AR):Prop where
 len:A.st.length=A.n
 n1:32<=A.n
 n2:A.n<=1024
 n16:A.n%16=0
 le:∀p,A.f p<=3
 us:∀p,A.f p=1↔A.ow p≠0
 fr:∀p,A.S p=true↔2<=A.f p
 hp:∀p,A.f p=0↔A.f (p/16*16)=0
theorem PG.lt {A:AR}(h:PG A){p:Nat}(hp:A.f p≠0):p<A.n:=h.len▸Wne hp
theorem PG.bnd {A:AR}(h:PG A):Bounded A.S A.n:=λp hp=>h.lt (by have:=(h.fr p).1 hp;omega)
theorem PG.hp2 {A:AR}(h:PG A){p q:Nat}(e:p/16=q/16):A.f p=0↔A.f q=0:=by rw[h.hp p,h.hp q,e]
theorem PG.same {A B:AR}(h:PG A)(e1:B.n=A.n)(e2:B.st=A.st)(e3:B.S=A.S)(e4:B.ow=A.ow):PG B:=by
 have ef:∀p,B.f p=A.f p:=λp=>by unfold AR.f;rw[e2]
 exact⟨by rw[e2,e1];exact h.len,by rw[e1];exact h.n1,by rw[e1];exact h.n2,by rw[e1];exact h.n16,λp=>by rw[ef];exact h.le p,λp=>by rw[ef,e4];exact h.us p,λp=>by rw[ef,e3];exact h.fr p,λp=>by rw[ef,ef];exact h.hp p⟩
theorem WhW {ow:Nat->Nat}{a m no:Nat}(h1:1<=m)(h2:a+m<=1024)(p:Nat):setO ow a m no p=if a<=p/\p<a+m then no else ow p:=by
 unfold setO;rw[zB (Vb.2 ⟨h1,h2⟩)]
theorem We1 {n:Nat}{S:Nat->Bool}{a m:Nat}(h1:1<=m)(h2:a+m<=n)(h:∀p,a<=p->p<a+m->S p=false):QL n S (a:Int) (m:Int)=give S a (a+m):=by
 unfold QL;rw[Vb.2 ⟨h1,h2⟩,iTn,iTn,KY.2 h];rfl
theorem Wmv {n:Nat}{S:Nat->Bool}{a m:Nat}(h1:1<=m)(h2:a+m<=n)(h:∀p,a<=p->p<a+m->S p=true):runS n S (a:Int) (m:Int)=take S a (a+m):=by
 unfold runS;rw[Vb.2 ⟨h1,h2⟩,iTn,iTn,V5.2 h];rfl
structure Out (A B:AR) (a b:Nat):Prop where
 n:B.n=A.n
 len:B.st.length=A.st.length
 f:∀p,¬(a<=p/\p<b)->B.f p=A.f p
 ow:∀p,¬(a<=p/\p<b)->B.ow p=A.ow p
 S:∀p,¬(a<=p/\p<b)->B.S p=A.S p
theorem Out.pg {A B:AR}{a b v:Nat}(o:Out A B a b)(h:PG A)(hv:v<=3)(hf:∀p,a<=p->p<b->B.f p=v)(hw:∀p,a<=p->p<b->(v=1↔B.ow p≠0))(hS:∀p,a<=p->p<b->(B.S p=true↔2<=v))
 (hz:∀p,B.f p=0↔B.f (p/16*16)=0):PG B:=by
 refine⟨by rw[o.len,o.n];exact h.len,by rw[o.n];exact h.n1,by rw[o.n];exact h.n2,by rw[o.n];exact h.n16,λp=>?_,λp=>?_,λp=>?_,hz⟩
 ·by_cases hp:a<=p/\p<b
  ·rw[hf p hp.1 hp.2];exact hv
  ·rw[o.f p hp];exact h.le p
 ·by_cases hp:a<=p/\p<b
  ·rw[hf p hp.1 hp.2];exact hw p hp.1 hp.2
  ·rw[o.f p hp,o.ow p hp];exact h.us p
 ·by_cases hp:a<=p/\p<b
  ·rw[hf p hp.1 hp.2];exact hS p hp.1 hp.2
  ·rw[o.f p hp,o.S p hp];exact h.fr p
theorem Out.zero {A B:AR}{a b v:Nat}(o:Out A B a b)(h:PG A)(hf:∀p,a<=p->p<b->B.f p=v)(hv:v≠0)(hA:∀p,a<=p->p<b->A.f p≠0):∀p,B.f p=0↔A.f p=0:=by
 intro p;by_cases hp:a<=p/\p<b
 ·rw[hf p hp.1 hp.2];exact⟨λe=>(hv e).elim,λe=>(hA p hp.1 hp.2 e).elim⟩
 ·rw[o.f p hp]
theorem WlK {A B:AR}(h:PG A)(e:∀p,B.f p=0↔A.f p=0):∀p,B.f p=0↔B.f (p/16*16)=0:=λp=>by rw[e,e];exact h.hp p
theorem WeP {A:AR}(h:PG A){a m:Nat}(h1:1<=m)(hu:∀p,a<=p->p<a+m->A.f p=1):Out A (VR A (a,m)) a (a+m)/\(∀p,a<=p->p<a+m->(VR A (a,m)).f p=2/\(VR A (a,m)).ow p=0)/\PG (VR A (a,m))/\∀p,(VR A (a,m)).f p=0↔A.f p=0:=by
 have hl:a+m<=A.n:=by have:=h.lt (p:=a+m-1) (by rw[hu _ (by omega) (by omega)];omega);omega
 have hn:=h.n2;have e1:(VR A (a,m)).st=setR A.st a (a+m) 2:=WbS h1 (by rw[h.len];exact hl) λp p1 p2=>by
  have:=hu p p1 p2;unfold AR.f at this;rw[this];simp
 have e2:(VR A (a,m)).S=give A.S a (a+m):=We1 h1 hl λp p1 p2=>by
  apply zBB.2;intro hS;have:=(h.fr p).1 hS;have:=hu p p1 p2;omega
 have e3:∀p,(VR A (a,m)).ow p=if a<=p/\p<a+m then 0 else A.ow p:=λp=>WhW h1 (by omega) p
 have ef:∀p,(VR A (a,m)).f p=if a<=p/\p<a+m then 2 else A.f p:=λp=>by unfold AR.f;rw[e1,He (by rw[h.len];exact hl)]
 have o:Out A (VR A (a,m)) a (a+m):=⟨rfl,by rw[e1,Qi],λp hp=>by rw[ef,zA hp],λp hp=>by rw[e3,zA hp],λp hp=>by
  rw[e2];unfold give;have:(decide (a<=p)&&decide (p<a+m))=false:=by simp;omega
  rw[this,Bool.or_false]⟩
 have hf:∀p,a<=p->p<a+m->(VR A (a,m)).f p=2:=λp p1 p2=>by rw[ef,zB ⟨p1,p2⟩]
 have hw:∀p,a<=p->p<a+m->(VR A (a,m)).ow p=0:=λp p1 p2=>by rw[e3,zB ⟨p1,p2⟩]
 have hz:=o.zero h hf (by omega) λp p1 p2=>by rw[hu p p1 p2];omega
 refine⟨o,λp p1 p2=>⟨hf p p1 p2,hw p p1 p2⟩,o.pg h (by omega) hf (λp p1 p2=>by rw[hw p p1 p2];simp) (λp p1 p2=>?_) (WlK h hz),hz⟩;rw[e2,Kj];exact⟨λ_=>zC _,λ_=>.inr ⟨p1,p2⟩⟩
structure Backd (A B:AR) (rs:List (Nat×Nat)):Prop where
 pg:PG B
 n:B.n=A.n
 tb:B.tb=A.tb
 room:B.room=A.room
 tra:B.tra=A.tra
 cen:B.cen=A.cen
 runs:B.runs=A.runs
 i:∀p,inR rs p->B.f p=2/\B.ow p=0
 o:∀p,¬inR rs p->B.f p=A.f p/\B.ow p=A.ow p
 z:∀p,B.f p=0↔A.f p=0
theorem We3:∀(rs:List (Nat×Nat)) {A:AR},PG A->(∀r∈rs,1<=r.2)->(∀r∈rs,∀p,r.1<=p->p<r.1+r.2->A.f p=1)->rs.Pairwise (λa b=>a.1+a.2<=b.1\/b.1+b.2<=a.1)->Backd A (VN A rs) rs
 | [],A,h,_,_,_=>⟨h,rfl,rfl,rfl,rfl,rfl,rfl,λp ⟨r,hr,_⟩=>by simp at hr,λp _=>⟨rfl,rfl⟩,λp=>Iff.rfl⟩
 | (a,m)::rs,A,h,hp,hu,hd=>by
  have hd':=zAY.1 hd;obtain⟨o,hi,hpg,hz⟩:=WeP h (hp _ (zBA ..)) (hu _ (zBA ..));have ih:=We3 rs hpg (λr hr=>hp r (zAS _ hr)) (λr hr p p1 p2=>by
   have:=hd'.1 r hr;simp only at this;rw[o.f p (by omega)];exact hu r (zAS _ hr) p p1 p2) hd'.2
  have e:VN A ((a,m)::rs)=VN (VR A (a,m)) rs:=rfl;rw[e];refine⟨ih.pg,ih.n,ih.tb,ih.room,ih.tra,ih.cen,ih.runs,λp hin=>?_,λp hin=>?_,λp=>(ih.z p).trans (hz p)⟩
  ·by_cases h2:inR rs p
   ·exact ih.i p h2
   ·have:=ih.o p h2;obtain⟨r,hr,p1,p2⟩:=hin;rcases zR.1 hr with rfl|hr
    ·rw[this.1,this.2];exact hi p p1 p2
    ·exact(h2 ⟨r,hr,p1,p2⟩).elim
  ·have h2:¬inR rs p:=λ⟨r,hr,hx⟩=>hin ⟨r,zAS _ hr,hx⟩;have h3:¬(a<=p/\p<a+m):=λhx=>hin ⟨(a,m),zBA ..,hx⟩;have:=ih.o p h2;exact⟨this.1.trans (o.f p h3),this.2.trans (o.ow p h3)⟩
theorem WdS {A:AR}(h:PG A){a m no:Nat}(h1:1<=m)(hn:no≠0)(hS:∀p,a<=p->p<a+m->A.S p=true):Out A (useA A a m no) a (a+m)/\(∀p,a<=p->p<a+m->(useA A a m no).f p=1/\(useA A a m no).ow p=no)/\PG (useA A a m no)/\∀p,(useA A a m no).f p=0↔A.f p=0:=by
 have hA:∀p,a<=p->p<a+m->2<=A.f p:=λp p1 p2=>(h.fr p).1 (hS p p1 p2);have hl:a+m<=A.n:=by have:=h.lt (p:=a+m-1) (by have:=hA (a+m-1) (by omega) (by omega);omega);omega
 have hn2:=h.n2;have e1:(useA A a m no).st=setR A.st a (a+m) 1:=WbS h1 (by rw[h.len];exact hl) λp p1 p2=>by
  have h2:=hA p p1 p2;have h3:=h.le p;unfold AR.f at h2 h3;have:gf A.st p=2\/gf A.st p=3:=by omega
  simpa using this
 have e3:∀p,(useA A a m no).ow p=if a<=p/\p<a+m then no else A.ow p:=λp=>WhW h1 (by omega) p
 have ef:∀p,(useA A a m no).f p=if a<=p/\p<a+m then 1 else A.f p:=λp=>by unfold AR.f;rw[e1,He (by rw[h.len];exact hl)]
 have o:Out A (useA A a m no) a (a+m):=⟨rfl,by rw[e1,Qi],λp hp=>by rw[ef,zA hp],λp hp=>by rw[e3,zA hp],λp hp=>by
  show take A.S a (a+m) p=A.S p;unfold take;have:(decide (a<=p)&&decide (p<a+m))=false:=by simp;omega
  rw[this];simp⟩
 have hf:∀p,a<=p->p<a+m->(useA A a m no).f p=1:=λp p1 p2=>by rw[ef,zB ⟨p1,p2⟩]
 have hw:∀p,a<=p->p<a+m->(useA A a m no).ow p=no:=λp p1 p2=>by rw[e3,zB ⟨p1,p2⟩]
 have hz:=o.zero h hf (by omega) λp p1 p2=>by have:=hA p p1 p2;omega
 refine⟨o,λp p1 p2=>⟨hf p p1 p2,hw p p1 p2⟩,o.pg h (by omega) hf (λp p1 p2=>by rw[hw p p1 p2];simp[hn]) (λp p1 p2=>?_) (WlK h hz),hz⟩;show take A.S a (a+m) p=true↔_;rw[Ki];constructor
 ·rintro⟨_,hx⟩;exact(hx ⟨p1,p2⟩).elim
 ·intro hx;omega
theorem Wg6:∀(m:Nat) {st:List Nat} {a:Nat},(a+m)*16<=st.length->(∀p,a*16<=p->p<(a+m)*16->gf st p=0)->(UI st a m).length=st.length/\∀p,gf (UI st a m) p=if a*16<=p/\p<(a+m)*16 then 3 else gf st p
 | 0,st,a,hl,hz=>⟨rfl,λp=>by rw[zA (by omega)];rfl⟩
 | m+1,st,a,hl,hz=>by
  obtain⟨i1,i2⟩:=Wg6 m (st:=st) (a:=a) (by omega) λp p1 p2=>hz p p1 (by omega);rw[Wa9];have e0:gf (UI st a m) (16*(a+m))=0:=by rw[i2,zA (by omega)];exact hz _ (by omega) (by omega)
  have ok:addE (UI st a m) ((a+m:Nat):Int)=0:=by
   unfold addE;rw[UF (by rw[i1];omega),zB rfl,iTn];unfold gf at e0;rw[zB e0]
  have e:addT (UI st a m) ((a+m:Nat):Int)=setR (UI st a m) (16*(a+m)) (16*(a+m)+16) 3:=by
   unfold addT;rw[zB ok,iTn]
  rw[e];refine⟨by rw[Qi,i1],λp=>?_⟩;rw[He (by rw[i1];omega),i2];by_cases h1:16*(a+m)<=p/\p<16*(a+m)+16
  ·rw[zB h1,zB (by omega)]
  ·rw[zA h1];by_cases h2:a*16<=p/\p<(a+m)*16
   ·rw[zB h2,zB (by omega)]
   ·rw[zA h2,zA (by omega)]
theorem WaE {sp:Sp}{s m:Nat}(h:mapE sp (s:Int) (m:Int)=0):1<=m/\s+m<=sp.st.length/\∀p,s<=p->p<s+m->gf sp.st p=0:=by
 unfold mapE at h;split at h
 ·rename_i hr;obtain⟨h1,h2⟩:=Vb.1 hr;rw[iTn,iTn]at h;split at h
  ·cases h
  ·rename_i hn;refine⟨h1,h2,λp p1 p2=>?_⟩;have hp:p<sp.st.length:=by omega
   have hm:sp.st[p]∈(sp.st.drop s).take m:=by
    refine zD (i:=p-s) ?_;rw[zX,zB (by omega),zj,show s+(p-s)=p by omega,gGe hp]
   simp only[zz,not_exists,not_and]at hn;have:=hn _ hm;unfold gf;rw[zL,gGe hp];simpa using this
 ·cases h
structure Grown (A B:AR) (sp sp':Sp) (s size:Nat):Prop where
 pg:PG B
 n:B.n=A.n
 tb:B.tb=A.tb
 room:B.room=A.room
 tra:B.tra=A.tra
 cen:B.cen=A.cen
 runs:B.runs=A.runs
 ow:B.ow=A.ow
 s16:s%16=0
 s1:16<=s
 sl:s+size<=A.n
 un:∀p,s<=p->p<s+size->gf sp.st p=0
 i:∀p,s<=p->p<s+size->B.f p=3/\gf sp'.st p=1
 o:∀p,¬(s<=p/\p<s+size)->B.f p=A.f p/\gf sp'.st p=gf sp.st p
 w:∀x,¬(s*32<=x/\x<(s+size)*32)->sp'.wd x=sp.wd x
 l:sp'.st.length=sp.st.length
 pk:sp'.pk=sp.pk
theorem UL {sp:Sp}{size s:Nat}(h1:1<=size)(h:growStart sp size=some s):mapE sp (s:Int) (size:Int)=0/\s≠0/\(∃j,s=j*size)/\∀j,j*size<s->1<=j->mapE sp ((j*size:Nat):Int) (size:Int)≠0:=by
 unfold growStart at h;obtain⟨hm,us,vs,he,hb⟩:=List.find?_eq_some_iff_append.1 h;simp only[zF,bne_iff_ne,ne_eq,zY]at hm;have hmem:s∈(List.range (sp.st.length/size)).map (· * size):=by rw[he];simp
 obtain⟨j,hj,rfl⟩:=zE.1 hmem;rw[zb]at hj;refine⟨hm.2,hm.1,⟨j,rfl⟩,λi hi h1i=>?_⟩;have hij:i<j:=Nat.lt_of_mul_lt_mul_right hi;have:i*size∈us:=by
  have hi2:i*size∈(List.range (sp.st.length/size)).map (· * size):=zE.2 ⟨i,zb.2 (by omega),rfl⟩;have hsorted:((List.range (sp.st.length/size)).map (· * size)).Pairwise (· < ·):=by
   rw[zDQ];exact List.pairwise_lt_range.imp λ{a b} hab=>Nat.mul_lt_mul_of_pos_right hab (by omega)
  rw[he]at hi2 hsorted;rcases zS.1 hi2 with h|h
  ·exact h
  ·rcases zR.1 h with h|h
   ·have:=zEC (by omega) h;omega
   ·have:=(zAY.1 (zBO.1 hsorted).2.1).1 _ h;omega
 have:=hb _ this;have hne:i*size≠0:=by
  have:=Nat.mul_pos (show 0<i by omega) (show 0<size by omega);omega
 simpa[hne]using this
theorem Wg7 {sp:Sp}{s m:Nat}(h:mapE sp (s:Int) (m:Int)=0):(mapS sp (s:Int) (m:Int)).st.length=sp.st.length/\(∀p,gf (mapS sp (s:Int) (m:Int)).st p=if s<=p/\p<s+m then 1 else gf sp.st p)/\(∀x,¬(s*32<=x/\x<(s+m)*32)->(mapS sp (s:Int) (m:Int)).wd x=sp.wd x)/\(mapS sp (s:Int) (m:Int)).pk=sp.pk:=by
 obtain⟨h1,h2,_⟩:=WaE h;unfold mapS;rw[zB h,iTn,iTn];refine⟨by simp[Sp.set,Qi],λp=>He h2,λx hx=>?_,rfl⟩;show(if s*32<=x/\x<(s+m)*32 then 0 else sp.wd x)=_
 rw[zA hx]
theorem Wjf {A:AR}{sp:Sp}(h:PG A)(hl:sp.st.length=A.n)(hz:∀p,gf sp.st p=0->A.f p=0){size:Nat}(hs:size=16\/size=32\/size=64){B:AR}{sp':Sp}(hg:UG A sp size=some (B,sp')) :
 ∃s,growStart sp size=some s/\Grown A B sp sp' s size:=by
 unfold UG at hg;split at hg
 ·cases hg
 ·rename_i s hgs;cases hg;obtain⟨hm,h0,⟨j,hj⟩,_⟩:=UL (by omega) hgs;obtain⟨m1,m2,m3⟩:=WaE hm;have s16:s%16=0:=by rcases hs with rfl|rfl|rfl<;>omega
  have sz16:size%16=0:=by rcases hs with rfl|rfl|rfl<;>omega
  have e1:s/16*16=s:=by omega
  have e2:(s/16+size/16)*16=s+size:=by omega
  have hA0:∀p,s<=p->p<s+size->A.f p=0:=λp p1 p2=>hz p (m3 p p1 p2);obtain⟨a1,a2⟩:=Wg6 (size/16) (st:=A.st) (a:=s/16) (by rw[e2,h.len,←hl];exact m2) (by rw[e1,e2];exact hA0);rw[e1,e2]at a2;obtain⟨b1,b2,b3,b4⟩:=Wg7 hm;have hl':s+size<=A.n:=by rw[←hl];exact m2
  have eS:QL A.n A.S (s:Int) (size:Int)=give A.S s (s+size):=We1 m1 hl' λp p1 p2=>by
   apply zBB.2;intro hS;have:=(h.fr p).1 hS;have:=hA0 p p1 p2;omega
  refine⟨s,hgs,⟨?_,rfl,rfl,rfl,rfl,rfl,rfl,rfl,s16,by omega,hl',m3,λp p1 p2=>⟨?_,?_⟩,λp hp=>⟨?_,?_⟩,b3,b1,b4⟩⟩
  ·have o:Out A {A with st:=UI A.st (s/16) (size/16),S:=QL A.n A.S (s:Int) (size:Int)} s (s+size):=⟨rfl,a1,λp hp=>by show gf _ p=_;rw[a2,zA hp];rfl,λp hp=>rfl,λp hp=>by
    show QL A.n A.S (s:Int) (size:Int) p=A.S p;rw[eS];unfold give;have:(decide (s<=p)&&decide (p<s+size))=false:=by simp;omega
    rw[this,Bool.or_false]⟩
   have hf:∀p,s<=p->p<s+size->AR.f {A with st:=UI A.st (s/16) (size/16),S:=QL A.n A.S (s:Int) (size:Int)} p=3:=λp p1 p2=>by show gf _ p=3;rw[a2,zB ⟨p1,p2⟩]
   refine o.pg h (zC _) hf (λp p1 p2=>?_) (λp p1 p2=>?_) λp=>?_
   ·have h0:=hA0 p p1 p2;have:=h.us p;constructor
    ·intro hx;omega
    ·intro hx;have:=this.2 hx;omega
   ·show QL A.n A.S (s:Int) (size:Int) p=true↔_;rw[eS,Kj];exact⟨λ_=>by omega,λ_=>.inr ⟨p1,p2⟩⟩
   ·by_cases hp:s<=p/\p<s+size
    ·rw[hf p hp.1 hp.2,hf (p/16*16) (by omega) (by omega)]
    ·rw[o.f p hp,o.f (p/16*16) (by omega)];exact h.hp p
  ·show gf (UI A.st (s/16) (size/16)) p=3;rw[a2,zB ⟨p1,p2⟩]
  ·rw[b2,zB ⟨p1,p2⟩]
  ·show gf (UI A.st (s/16) (size/16)) p=A.f p;rw[a2,zA hp];rfl
  ·rw[b2,zA hp]
end Go.Ar
namespace Go.Ar
open Go.Bu (Y3 QL runS Zf WaY allF KY V5 give take Kj Ki Bounded full can YF UD ZA QN ZL Kf QP Qb)
def Cl (A:AR)(k:Nat)(c:Cls)(ss:List SpA):Prop:=A.tb[k]?=some c/\A.cen[k]?=some ss
def TkA (A:AR)(k:Nat)(x:Int):Prop:=∃c ss,Cl A k c ss/\Tk c ss x
def InT (A:AR)(k:Nat)(x:Int):Prop:=∃t,A.tra[k]?=some t/\x∈t.bs.flatten
structure GA (A:AR):Prop where
 pg:PG A
 tb:A.tb.length<=40
 lc:A.cen.length=A.tb.length
 lt:A.tra.length=A.tb.length
 cen:∀k c ss,Cl A k c ss->CenOk c ss
 one:∀k c ss,Cl A k c ss->∀s∈ss,s.st/16=(s.st+c.pages-1)/16
 ow:∀k c ss,Cl A k c ss->∀p,A.ow p=k+1↔Cov c ss p
 ow41:∀p,A.ow p=41↔inR A.runs p
 owb:∀p,A.ow p=41\/A.ow p<=A.tb.length
 rpos:∀r∈A.runs,1<=r.2
 rdis:A.runs.Pairwise λa b=>a.1+a.2<=b.1\/b.1+b.2<=a.1
 trn:∀(k:Nat) (t:TrA),A.tra[k]?=some t->t.bs.flatten.Nodup
 trt:∀(k:Nat) c ss (t:TrA),Cl A k c ss->A.tra[k]?=some t->∀x∈t.bs.flatten,Tk c ss x
 trb:∀(k:Nat) (c:Cls) (t:TrA),A.tb[k]?=some c->A.tra[k]?=some t->∀xs∈t.bs,xs.length=c.batch
structure Kp (A B:AR):Prop where
 n:B.n=A.n
 tb:B.tb=A.tb
 room:B.room=A.room
 z:∀p,B.f p=0↔A.f p=0
 t:∀p,B.f p=3->A.f p=3
theorem Kp.refl (A:AR):Kp A A:=⟨rfl,rfl,rfl,λ_=>Iff.rfl,λ_=>id⟩
theorem Kp.trans {A B C:AR}(h:Kp A B)(k:Kp B C):Kp A C:=⟨k.n.trans h.n,k.tb.trans h.tb,k.room.trans h.room,λp=>(k.z p).trans (h.z p),λp hp=>h.t p (k.t p hp)⟩
theorem Kp.pages {A B:AR}(e1:B.n=A.n)(e2:B.tb=A.tb)(e3:B.room=A.room)(e4:B.st=A.st):Kp A B:=⟨e1,e2,e3,λp=>by unfold AR.f;rw[e4],λp=>by unfold AR.f;rw[e4];exact id⟩
variable {A:AR}{k:Nat}{c:Cls}{ss:List SpA}
theorem Cl.lt (h:Cl A k c ss):k<A.tb.length:=(gSi.1 h.1).1
theorem Cl.eq {c':Cls}{ss':List SpA}(h:Cl A k c ss)(h':Cl A k c' ss'):c=c'/\ss=ss':=⟨Option.some.inj (h.1.symm.trans h'.1),Option.some.inj (h.2.symm.trans h'.2)⟩
theorem GA.cl (h:GA A){k:Nat}(hk:k<A.tb.length):∃c ss t,Cl A k c ss/\A.tra[k]?=some t:=by
 have h1:=h.lc;have h2:=h.lt;exact⟨A.tb[k],A.cen[k],A.tra[k],⟨by simp,by simp⟩,by simp⟩
theorem GA.used (h:GA A)(hk:Cl A k c ss){s:SpA}(hs:s∈ss){p:Nat}(h1:s.st<=p)(h2:p<s.st+c.pages):A.f p=1/\A.ow p=k+1:=by
 have:=(h.ow k c ss hk p).2 ⟨s,hs,h1,h2⟩;exact⟨(h.pg.us p).2 (by omega),this⟩
theorem GA.usedR (h:GA A){r:Nat×Nat}(hr:r∈A.runs){p:Nat}(h1:r.1<=p)(h2:p<r.1+r.2):A.f p=1/\A.ow p=41:=by
 have:=(h.ow41 p).2 ⟨r,hr,h1,h2⟩;exact⟨(h.pg.us p).2 (by omega),this⟩
theorem GA.runs_uniq (h:GA A){r s:Nat×Nat}(hr:r∈A.runs)(hs:s∈A.runs){x:Nat}(h1:r.1<=x)(h2:x<r.1+r.2)(h3:s.1<=x)(h4:x<s.1+s.2):r=s:=by
 obtain⟨i,hi⟩:=zM hr;obtain⟨j,hj⟩:=zM hs;obtain⟨hi1,rfl⟩:=gSi.1 hi;obtain⟨hj1,rfl⟩:=gSi.1 hj;rcases zBT i j with hl|hl|hl
 ·have:=zAI.1 h.rdis i j hi1 hj1 hl;omega
 ·subst hl;rfl
 ·have:=zAI.1 h.rdis j i hj1 hi1 hl;omega
theorem GA.fit (h:GA A){r:Nat×Nat}(hr:r∈A.runs):r.1+r.2<=A.n:=by
 have:=h.rpos r hr;have:=h.pg.lt (p:=r.1+r.2-1) (by rw[(h.usedR hr (p:=r.1+r.2-1) (by omega) (by omega)).1];omega);omega
theorem GA.runsOk (h:GA A):RunsOk A:=by
 have hn:=h.pg.n2;refine⟨λr hr s hs x h1 h2 h3 h4=>h.runs_uniq hr hs h1 h2 h3 h4,λx hx h41=>?_,λx hx h0 h41=>?_,λr hr=>?_⟩
 ·obtain⟨r,hr,h1,h2⟩:=(h.ow41 x).1 h41;unfold WcQ;rw[zGE];exact⟨r,hr,by simp[h1,h2]⟩
 ·rcases h.owb x with e|e
  ·exact(h41 e).elim
  ·exact e
 ·have:=h.fit hr;omega
theorem Uh (hk:Cl A k c ss){ss':List SpA}{j:Nat}{d:Cls}{tt:List SpA}(h:Cl {A with cen:=A.cen.set k ss'} j d tt):(j=k/\d=c/\tt=ss')\/(j≠k/\Cl A j d tt):=by
 obtain⟨h1,h2⟩:=h;by_cases hjk:j=k
 ·subst hjk;have hl:=(gSi.1 hk.2).1;simp only[zK hl]at h2;exact .inl ⟨rfl,Option.some.inj (h1.symm.trans hk.1),(Option.some.inj h2).symm⟩
 ·simp only[zd (Ne.symm hjk)]at h2;exact .inr ⟨hjk,h1,h2⟩
theorem UQ (hk:Cl A k c ss)(ss':List SpA):Cl {A with cen:=A.cen.set k ss'} k c ss':=⟨hk.1,zK (gSi.1 hk.2).1⟩
theorem WgU {ss':List SpA}{j:Nat}{d:Cls}{tt:List SpA}(hjk:j≠k)(h:Cl A j d tt):Cl {A with cen:=A.cen.set k ss'} j d tt:=⟨h.1,(zd (Ne.symm hjk)).trans h.2⟩
theorem GA.setCen (h:GA A)(hk:Cl A k c ss){ss':List SpA}(hC:CenOk c ss')(hst:ss'.map (·.st)=ss.map (·.st))(ht:∀t,A.tra[k]?=some t->∀x∈t.bs.flatten,Tk c ss' x):GA {A with cen:=A.cen.set k ss'}:=by
 refine⟨h.pg.same rfl rfl rfl rfl,h.tb,by simp[h.lc],h.lt,λj d tt hj=>?_,λj d tt hj s hs=>?_,λj d tt hj p=>?_,h.ow41,h.owb,h.rpos,h.rdis,h.trn,λj d tt t hj htr=>?_,h.trb⟩
 ·rcases Uh hk hj with⟨rfl,rfl,rfl⟩|⟨hne,hj⟩
  ·exact hC
  ·exact h.cen j d tt hj
 ·rcases Uh hk hj with⟨rfl,rfl,rfl⟩|⟨hne,hj⟩
  ·have:s.st∈ss.map (·.st):=by rw[←hst];exact zE.2 ⟨s,hs,rfl⟩
   obtain⟨t,ht,e⟩:=zE.1 this;rw[←e];exact h.one _ _ _ hk t ht
  ·exact h.one j d tt hj s hs
 ·rcases Uh hk hj with⟨rfl,rfl,rfl⟩|⟨hne,hj⟩
  ·rw[Wnc hst];exact h.ow _ _ _ hk p
  ·exact h.ow j d tt hj p
 ·rcases Uh hk hj with⟨rfl,rfl,rfl⟩|⟨hne,hj⟩
  ·exact ht t htr
  ·exact h.trt j d tt t hj htr
theorem WbV (hk:Cl A k c ss){ss':List SpA}{j:Nat}{x:Int}:TkA {A with cen:=A.cen.set k ss'} j x↔(j=k/\Tk c ss' x)\/(j≠k/\TkA A j x):=by
 constructor
 ·rintro⟨d,tt,hj,hx⟩;rcases Uh hk hj with⟨rfl,rfl,rfl⟩|⟨hne,hj⟩
  ·exact .inl ⟨rfl,hx⟩
  ·exact .inr ⟨hne,d,tt,hj,hx⟩
 ·rintro(⟨rfl,hx⟩|⟨hne,d,tt,hj,hx⟩)
  ·exact⟨c,ss',UQ hk ss',hx⟩
  ·exact⟨d,tt,WgU hne hj,hx⟩
theorem KM (hk:Cl A k c ss){x:Int}:TkA A k x↔Tk c ss x:=by
 constructor
 ·rintro⟨d,tt,hj,hx⟩;obtain⟨rfl,rfl⟩:=hk.eq hj;exact hx
 ·intro hx;exact⟨c,ss,hk,hx⟩
def swp (A:AR)(k:Nat)(c:Cls)(ss:List SpA):AR:=VN {A with cen:=A.cen.set k (sweep ss)} ((Z6 ss).map λs=>(s,c.pages))
theorem WaG {p:Nat}:inR ((Z6 ss).map λs=>(s,c.pages)) p↔∃x∈Z6 ss,x<=p/\p<x+c.pages:=by
 unfold inR;simp only[zE];constructor
 ·rintro⟨_,⟨x,hx,rfl⟩,h⟩;exact⟨x,hx,h⟩
 ·rintro⟨x,hx,h⟩;exact⟨_,⟨x,hx,rfl⟩,h⟩
theorem GA.swept_used (h:GA A)(hk:Cl A k c ss){x:Nat}(hx:x∈Z6 ss){p:Nat}(h1:x<=p)(h2:p<x+c.pages):A.f p=1/\A.ow p=k+1:=by
 obtain⟨s,hs,_,rfl⟩:=G9.1 hx;exact h.used hk hs h1 h2
theorem GA.swpB (h:GA A)(hk:Cl A k c ss):Backd {A with cen:=A.cen.set k (sweep ss)} (swp A k c ss) ((Z6 ss).map λs=>(s,c.pages)):=by
 have hC:=h.cen k c ss hk;refine We3 _ (h.pg.same rfl rfl rfl rfl) (λr hr=>?_) (λr hr p p1 p2=>?_) ?_
 ·obtain⟨x,_,rfl⟩:=zE.1 hr;exact hC.pg
 ·obtain⟨x,hx,rfl⟩:=zE.1 hr;exact(h.swept_used hk hx p1 p2).1
 ·rw[zDQ];exact(WiT hC).imp λ{a b} hab=>.inl hab
theorem GA.swp (h:GA A)(hk:Cl A k c ss):GA (Go.Ar.swp A k c ss):=by
 have b:=h.swpB hk;have hC:=h.cen k c ss hk;have hkl:=hk.lt;have htb:=h.tb;have cl:∀{j d tt},Cl (Go.Ar.swp A k c ss) j d tt->(j=k/\d=c/\tt=sweep ss)\/(j≠k/\Cl A j d tt):=λ{j d tt} hj=>Uh hk ⟨by rw[←b.tb];exact hj.1,by rw[←b.cen];exact hj.2⟩;have own:∀p,inR ((Z6 ss).map λs=>(s,c.pages)) p->A.ow p=k+1:=λp hp=>by
  obtain⟨x,hx,h1,h2⟩:=WaG.1 hp;exact(h.swept_used hk hx h1 h2).2
 have tra:(Go.Ar.swp A k c ss).tra=A.tra:=b.tra;have tb:(Go.Ar.swp A k c ss).tb=A.tb:=b.tb;have runs:(Go.Ar.swp A k c ss).runs=A.runs:=b.runs;refine⟨b.pg,by rw[tb];exact h.tb,by rw[b.cen,tb];simp[h.lc],by rw[tra,tb];exact h.lt,λj d tt hj=>?_,λj d tt hj s hs=>?_,λj d tt hj p=>?_,λp=>?_,λp=>?_,by rw[runs];exact h.rpos,by rw[runs];exact h.rdis,by rw[tra];exact h.trn,λj d tt t hj htr=>?_,by rw[tra,tb];exact h.trb⟩
 ·rcases cl hj with⟨rfl,rfl,rfl⟩|⟨hne,hj⟩
  ·exact hC.sweep
  ·exact h.cen j d tt hj
 ·rcases cl hj with⟨rfl,rfl,rfl⟩|⟨hne,hj⟩
  ·exact h.one _ _ _ hk s (zG.1 hs).1
  ·exact h.one j d tt hj s hs
 ·by_cases hp:inR ((Z6 ss).map λs=>(s,c.pages)) p
  ·rw[(b.i p hp).2];have ho:=own p hp;rcases cl hj with⟨rfl,rfl,rfl⟩|⟨hne,hj⟩
   ·rw[Wdq hC];constructor
    ·intro e;omega
    ·rintro⟨_,hn⟩;exact(hn (WaG.1 hp)).elim
   ·rw[←h.ow j d tt hj p,ho];omega
  ·rw[(b.o p hp).2];rcases cl hj with⟨rfl,rfl,rfl⟩|⟨hne,hj⟩
   ·rw[Wdq hC];show A.ow p=_↔_;rw[h.ow _ _ _ hk p];exact⟨λhx=>⟨hx,λhy=>hp (WaG.2 hy)⟩,λhx=>hx.1⟩
   ·exact h.ow j d tt hj p
 ·rw[runs];by_cases hp:inR ((Z6 ss).map λs=>(s,c.pages)) p
  ·rw[(b.i p hp).2,←h.ow41,own p hp];omega
  ·rw[(b.o p hp).2];exact h.ow41 p
 ·rw[tb];by_cases hp:inR ((Z6 ss).map λs=>(s,c.pages)) p
  ·rw[(b.i p hp).2];omega
  ·rw[(b.o p hp).2];exact h.owb p
 ·rw[tra]at htr;rcases cl hj with⟨rfl,rfl,rfl⟩|⟨hne,hj⟩
  ·intro x hx;exact(Wfc hC).2 (h.trt _ _ _ t hk htr x hx)
  ·exact h.trt j d tt t hj htr
theorem GA.swpK (h:GA A)(hk:Cl A k c ss):Kp A (Go.Ar.swp A k c ss):=by
 have b:=h.swpB hk;refine⟨b.n,b.tb,b.room,b.z,λp hp=>?_⟩;by_cases hi:inR ((Z6 ss).map λs=>(s,c.pages)) p
 ·rw[(b.i p hi).1]at hp;omega
 ·rw[(b.o p hi).1]at hp;exact hp
theorem GA.swpT (h:GA A)(hk:Cl A k c ss){j:Nat}{x:Int}:TkA (Go.Ar.swp A k c ss) j x↔TkA A j x:=by
 have b:=h.swpB hk;have hC:=h.cen k c ss hk;have e:TkA (Go.Ar.swp A k c ss) j x↔TkA {A with cen:=A.cen.set k (sweep ss)} j x:=by unfold TkA Cl;rw[b.tb,b.cen]
 rw[e,WbV hk,Wfc hC];constructor
 ·rintro(⟨rfl,hx⟩|⟨_,hx⟩)
  ·exact(KM hk).2 hx
  ·exact hx
 ·intro hx;by_cases hjk:j=k
  ·subst hjk;exact .inl ⟨rfl,(KM hk).1 hx⟩
  ·exact .inr ⟨hjk,hx⟩
theorem U9 {k:Int}:A.ck k=true↔∃j:Nat,k=j/\j<A.tb.length:=by
 unfold AR.ck;simp only[zF,zP];constructor
 ·intro h;exact⟨k.toNat,by omega,by omega⟩
 ·rintro⟨j,rfl,h⟩;omega
structure Ob (A B:AR):Prop where
 ga:GA B
 kp:Kp A B
 runs:B.runs=A.runs
theorem Wbv (h:GA A)(k m:Int):Ob A (YE A k m)/\(YE A k m).tra=A.tra/\(Yl A k m).Nodup/\(Yl A k m≠[]->∃j:Nat,k=j/\j<A.tb.length)/\(∀x∈Yl A k m,¬TkA A k.toNat (x:Int)) ∧
 ∀j y,TkA (YE A k m) j y↔TkA A j y\/(j=k.toNat/\∃x∈Yl A k m,y=((x:Nat):Int)):=by
 by_cases h0:QA A k m=0
 ·have hck:A.ck k=true:=by
   unfold QA at h0;split at h0
   ·assumption
   ·cases h0
  obtain⟨j,rfl,hj⟩:=U9.1 hck;obtain⟨c,ss,t,hk,ht⟩:=h.cl hj;have eR:Vs A (j:Int) m=Q7 c m.toNat ss:=by unfold Vs;rw[iTn,hk.1,hk.2]
  have eS:YE A (j:Int) m = {A with cen:=A.cen.set j (Q7 c m.toNat ss).2}:=by unfold YE;rw[zB h0,eR,iTn]
  have eV:Yl A (j:Int) m=(Q7 c m.toNat ss).1:=by unfold Yl;rw[zB h0,eR]
  rw[eS,eV];obtain⟨s1,s2,s3,s4,s5,s6⟩:=HT m.toNat (h.cen j c ss hk);refine⟨⟨h.setCen hk s1 s2 λt' ht' x hx=>(s6 x).2 (.inr (h.trt j c ss t' hk ht' x hx)),Kp.pages rfl rfl rfl rfl,rfl⟩,rfl,s4,λ_=>⟨j,rfl,hj⟩,λx hx=>?_,λi y=>?_⟩
  ·rw[iTn,KM hk];exact s5 x hx
  ·rw[WbV hk,s6,iTn];by_cases hij:i=j
   ·subst hij;rw[KM hk];constructor
    ·rintro(⟨_,hx|hx⟩|⟨hx,_⟩)
     ·exact .inr ⟨rfl,hx⟩
     ·exact .inl hx
     ·exact(hx rfl).elim
    ·rintro(hx|⟨_,hx⟩)
     ·exact .inl ⟨rfl,.inr hx⟩
     ·exact .inl ⟨rfl,.inl hx⟩
   ·constructor
    ·rintro(⟨hx,_⟩|⟨_,hx⟩)
     ·exact(hij hx).elim
     ·exact .inl hx
    ·rintro(hx|⟨hx,_⟩)
     ·exact .inr ⟨hij,hx⟩
     ·exact(hij hx).elim
 ·have eS:YE A k m=A:=by unfold YE;rw[zA h0]
  have eV:Yl A k m=[]:=by unfold Yl;rw[zA h0]
  rw[eS,eV];exact⟨⟨h,Kp.refl A,rfl⟩,rfl,zDC,by simp,by simp,by simp⟩
theorem Wg8 {xs:List Int}(h:AllT c ss xs):putE c ss xs=0:=by
 unfold putE;have h1:xs.any (λx=>(isTk c ss x).isNone)=false:=by
  rw[zAO];intro x hx;rw[h.1 x hx];simp
 have h2:xs.any (λx=>isTk c ss x==some false)=false:=by
  rw[zAO];intro x hx;rw[h.1 x hx];simp
 rw[h1,h2,zI h.2];rfl
theorem HB (h:GA A)(hk:Cl A k c ss)(xs:List Int):QU A (k:Int) xs=putE c ss xs:=by
 unfold QU;rw[U9.2 ⟨k,rfl,hk.lt⟩,zB rfl,iTn,hk.1,hk.2]
theorem Wae (h:GA A){k:Int}{xs:List Int}(h0:QU A k xs=0):∃(j:Nat) (c:Cls) (ss:List SpA),k=j/\Cl A j c ss/\AllT c ss xs:=by
 have hck:A.ck k=true:=by
  unfold QU at h0;split at h0
  ·assumption
  ·cases h0
 obtain⟨j,rfl,hj⟩:=U9.1 hck;obtain⟨c,ss,t,hk,ht⟩:=h.cl hj;rw[HB h hk]at h0;exact⟨j,c,ss,rfl,hk,Wg9 h0⟩
theorem WbX (h:GA A){k:Int}{xs:List Int}(hd:QU A k xs=0->∀x∈xs,¬InT A k.toNat x):Ob A (Y1 A k xs)/\(Y1 A k xs).tra=A.tra ∧
 (QU A k xs=0->∀j y,TkA (Y1 A k xs) j y↔TkA A j y/\¬(j=k.toNat/\y∈xs))/\(QU A k xs≠0->Y1 A k xs=A):=by
 by_cases h0:QU A k xs=0
 ·obtain⟨j,c,ss,rfl,hk,hA⟩:=Wae h h0;obtain⟨p1,p2,p3⟩:=WcP xs (h.cen j c ss hk) hA;have g1:=h.setCen hk p1 p2 λt ht x hx=>(p3 x).2 ⟨h.trt j c ss t hk ht x hx,λhm=>hd h0 x hm ⟨t,by rw[iTn];exact ht,hx⟩⟩;have hk1:=UQ hk (xs.foldl (put1 c) ss);have eS:Y1 A (j:Int) xs=swp {A with cen:=A.cen.set j (xs.foldl (put1 c) ss)} j c (xs.foldl (put1 c) ss):=by
   unfold Y1 swp;rw[zB h0,iTn,hk.1,hk.2];simp only[zBK]
  have b:=g1.swpB hk1;rw[eS];refine⟨⟨g1.swp hk1,(Kp.pages rfl rfl rfl rfl:Kp A {A with cen:=A.cen.set j (xs.foldl (put1 c) ss)}).trans (g1.swpK hk1),b.runs⟩,b.tra,λ_ i y=>?_,λhn=>(hn h0).elim⟩;rw[g1.swpT hk1,WbV hk,p3,iTn];by_cases hij:i=j
  ·subst hij;rw[KM hk];constructor
   ·rintro(⟨_,hx,hy⟩|⟨hx,_⟩)
    ·exact⟨hx,λhz=>hy hz.2⟩
    ·exact(hx rfl).elim
   ·rintro⟨hx,hy⟩;exact .inl ⟨rfl,hx,λhz=>hy ⟨rfl,hz⟩⟩
  ·constructor
   ·rintro(⟨hx,_⟩|⟨_,hx⟩)
    ·exact(hij hx).elim
    ·exact⟨hx,λhz=>hij hz.1⟩
   ·rintro⟨hx,_⟩;exact .inr ⟨hij,hx⟩
 ·have eS:Y1 A k xs=A:=by unfold Y1;rw[zA h0]
  rw[eS];exact⟨⟨h,Kp.refl A,rfl⟩,rfl,λhx=>(h0 hx).elim,λ_=>rfl⟩
theorem GA.setTra (h:GA A){k:Nat}{t':TrA}(h1:t'.bs.flatten.Nodup)(h2:∀x∈t'.bs.flatten,TkA A k x)(h3:∀c,A.tb[k]?=some c->∀xs∈t'.bs,xs.length=c.batch):GA {A with tra:=A.tra.set k t'}:=by
 have get:∀{j t},(A.tra.set k t')[j]?=some t->(j=k/\t=t')\/(j≠k/\A.tra[j]?=some t):=by
  intro j t hj;by_cases hjk:j=k
  ·subst hjk;have hl:j<A.tra.length:=by have:=(gSi.1 hj).1;simpa using this
   rw[zK hl]at hj;exact .inl ⟨rfl,(Option.some.inj hj).symm⟩
  ·rw[zd (Ne.symm hjk)]at hj;exact .inr ⟨hjk,hj⟩
 refine⟨h.pg.same rfl rfl rfl rfl,h.tb,h.lc,by simp[h.lt],h.cen,h.one,h.ow,h.ow41,h.owb,h.rpos,h.rdis,λj t hj=>?_,λj c ss t hc hj x hx=>?_,λj c t hc hj=>?_⟩
 ·rcases get hj with⟨rfl,rfl⟩|⟨_,hj⟩
  ·exact h1
  ·exact h.trn j t hj
 ·rcases get hj with⟨rfl,rfl⟩|⟨_,hj⟩
  ·exact(KM hc).1 (h2 x hx)
  ·exact h.trt j c ss t hc hj x hx
 ·rcases get hj with⟨rfl,rfl⟩|⟨_,hj⟩
  ·exact h3 c hc
  ·exact h.trb j c t hc hj
theorem WbT {t':TrA}{j:Nat}{x:Int}(hk:k<A.tra.length):InT {A with tra:=A.tra.set k t'} j x↔(j=k/\x∈t'.bs.flatten)\/(j≠k/\InT A j x):=by
 by_cases hjk:j=k
 ·subst hjk;have e0:(A.tra.set j t')[j]?=some t':=zK hk;constructor
  ·rintro⟨t,e,hx⟩;have e:(A.tra.set j t')[j]?=some t:=e;rw[e0]at e;cases e;exact .inl ⟨rfl,hx⟩
  ·rintro(⟨_,hx⟩|⟨hx,_⟩)
   ·exact⟨_,e0,hx⟩
   ·exact(hx rfl).elim
 ·have e0:(A.tra.set k t')[j]?=A.tra[j]? := zd (Ne.symm hjk);constructor
  ·rintro⟨t,e,hx⟩;have e:(A.tra.set k t')[j]?=some t:=e;rw[e0]at e;exact .inr ⟨hjk,t,e,hx⟩
  ·rintro(⟨hx,_⟩|⟨_,t,e,hx⟩)
   ·exact(hjk hx).elim
   ·exact⟨t,e0.trans e,hx⟩
theorem HX {t:TrA}(ht:A.tra[k]?=some t){x:Int}:InT A k x↔x∈t.bs.flatten:=by
 constructor
 ·rintro⟨t',e,hx⟩;rw[ht]at e;cases e;exact hx
 ·intro hx;exact⟨t,ht,hx⟩
theorem Wda (h:GA A)(k:Int):Ob A (ZB A k)/\(∀j y,TkA (ZB A k) j y↔TkA A j y)/\(∀x∈YC A k,InT A k.toNat x)/\(YC A k).Nodup/\(YC A k≠[]->∃j:Nat,k=j/\j<A.tb.length) ∧
 ∀j y,InT (ZB A k) j y↔InT A j y/\¬(j=k.toNat/\y∈YC A k):=by
 by_cases h0:Z5 A k=0
 ·have hck:A.ck k=true:=by
   unfold Z5 at h0;split at h0
   ·assumption
   ·cases h0
  obtain⟨j,rfl,hj⟩:=U9.1 hck;obtain⟨c,ss,t,hk,ht⟩:=h.cl hj;have hne:t.bs≠[]:=by
   intro e;unfold Z5 at h0;rw[hck,zB rfl,iTn,ht]at h0;simp[e]at h0
  have eS:ZB A (j:Int) = {A with tra:=A.tra.set j t.rem}:=by unfold ZB;rw[zB h0,iTn,KP ht]
  have eV:YC A (j:Int)=t.bs.getLast?.getD []:=by unfold YC;rw[zB h0,iTn,ht]
  have hsp:t.bs=t.bs.dropLast++[t.bs.getLast hne]:=(List.dropLast_concat_getLast hne).symm;have hv:YC A (j:Int)=t.bs.getLast hne:=by rw[eV,List.getLast?_eq_some_getLast hne];rfl
  have hfl:t.bs.flatten=t.bs.dropLast.flatten++t.bs.getLast hne:=by
   conv=>lhs;rw[hsp]
   simp
  have hnd:=h.trn j t ht;rw[hfl]at hnd;have hnd':=zBN.1 hnd;have hrem:t.rem.bs=t.bs.dropLast:=rfl;rw[eS,hv];refine⟨⟨h.setTra (by rw[hrem];exact hnd'.1) (λx hx=>(KM hk).2 (h.trt j c ss t hk ht x (by rw[hfl];exact zAW _ hx))) λc' hc' xs hxs=>h.trb j c' t hc' ht xs ((List.dropLast_sublist _).subset hxs),Kp.pages rfl rfl rfl rfl,rfl⟩,λ_ _=>Iff.rfl,λx hx=>?_,hnd'.2.1,λ_=>⟨j,rfl,hj⟩,λi y=>?_⟩
  ·rw[iTn,HX ht,hfl];exact zBP _ hx
  ·rw[WbT (by rw[h.lt];exact hj),hrem,iTn];by_cases hij:i=j
   ·subst hij;rw[HX ht,hfl,zS];constructor
    ·rintro(⟨_,hx⟩|⟨hx,_⟩)
     ·exact⟨.inl hx,λhy=>hnd'.2.2 y hx y hy.2 rfl⟩
     ·exact(hx rfl).elim
    ·rintro⟨hx|hx,hy⟩
     ·exact .inl ⟨rfl,hx⟩
     ·exact(hy ⟨rfl,hx⟩).elim
   ·constructor
    ·rintro(⟨hx,_⟩|⟨_,hx⟩)
     ·exact(hij hx).elim
     ·exact⟨hx,λhy=>hij hy.1⟩
    ·rintro⟨hx,_⟩;exact .inr ⟨hij,hx⟩
 ·have eS:ZB A k=A:=by unfold ZB;rw[zA h0]
  have eV:YC A k=[]:=by unfold YC;rw[zA h0]
  rw[eS,eV];exact⟨⟨h,Kp.refl A,rfl⟩,λ_ _=>Iff.rfl,by simp,zDC,by simp,by simp⟩
theorem WlH (h:GA A)(k:Int){xs:List Int}(hn:xs.Nodup)(hd:∀x∈xs,¬InT A k.toNat x):Ob A (Q6 A k xs)/\(∀j y,TkA (Q6 A k xs) j y↔TkA A j y) ∧
 (Vh A k xs=true->(∃j:Nat,k=j/\j<A.tb.length)/\(∀x∈xs,TkA A k.toNat x)/\∀j y,InT (Q6 A k xs) j y↔InT A j y\/(j=k.toNat/\y∈xs))/\(Vh A k xs=false->Q6 A k xs=A):=by
 by_cases h0:Vh A k xs=true
 ·have hE:Hs A k xs=0:=by
   unfold Vh at h0;simp only[zF,zP]at h0;exact h0.1
  have hck:A.ck k=true:=by
   unfold Hs at hE;split at hE
   ·assumption
   ·cases hE
  obtain⟨j,rfl,hj⟩:=U9.1 hck;obtain⟨c,ss,t,hk,ht⟩:=h.cl hj;have hE':=hE;unfold Hs at hE';rw[hck,zB rfl,iTn,hk.1,hk.2]at hE';simp only at hE';have hlen:xs.length=c.batch:=by
   apply Classical.byContradiction;intro hx;rw[zA hx]at hE';cases hE'
  rw[zB hlen]at hE';have htk:∀x∈xs,TkA A j x:=by
   intro x hx;split at hE'
   ·rename_i ha;rw[zu]at ha;rw[KM hk];simpa[Tk]using ha x hx
   ·cases hE'
  have eS:Q6 A (j:Int) xs = {A with tra:=A.tra.set j {t with bs:=t.bs++[xs]}}:=by unfold Q6;rw[zB h0,iTn,KP ht]
  have hfl:(t.bs++[xs]).flatten=t.bs.flatten++xs:=by simp
  rw[eS];refine⟨⟨h.setTra ?_ ?_ ?_,Kp.pages rfl rfl rfl rfl,rfl⟩,λ_ _=>Iff.rfl,λ_=>⟨⟨j,rfl,hj⟩,by rw[iTn];exact htk,λi y=>?_⟩,λhf=>by rw[hf]at h0;cases h0⟩
  ·show(t.bs++[xs]).flatten.Nodup;rw[hfl,zBN];exact⟨h.trn j t ht,hn,λa ha b hb e=>hd b hb (by subst e;rw[iTn,HX ht];exact ha)⟩
  ·intro x hx;have hx:x∈(t.bs++[xs]).flatten:=hx;rw[hfl,zS]at hx;rcases hx with hx|hx
   ·exact(KM hk).2 (h.trt j c ss t hk ht x hx)
   ·exact htk x hx
  ·intro c' hc' ys hys;have hys:ys∈t.bs++[xs]:=hys;rcases zS.1 hys with hys|hys
   ·exact h.trb j c' t hc' ht ys hys
   ·simp only[zZ]at hys;rw[hk.1]at hc';cases hc';rw[hys];exact hlen
  ·rw[WbT (by rw[h.lt];exact hj),iTn];show(i=j/\y∈(t.bs++[xs]).flatten)\/_↔_;rw[hfl,zS];by_cases hij:i=j
   ·subst hij;rw[HX ht];constructor
    ·rintro(⟨_,hx|hx⟩|⟨hx,_⟩)
     ·exact .inl hx
     ·exact .inr ⟨rfl,hx⟩
     ·exact(hx rfl).elim
    ·rintro(hx|⟨_,hx⟩)
     ·exact .inl ⟨rfl,.inl hx⟩
     ·exact .inl ⟨rfl,.inr hx⟩
   ·constructor
    ·rintro(⟨hx,_⟩|⟨_,hx⟩)
     ·exact(hij hx).elim
     ·exact .inl hx
    ·rintro(hx|⟨hx,_⟩)
     ·exact .inr ⟨hij,hx⟩
     ·exact(hij hx).elim
 ·have eS:Q6 A k xs=A:=by unfold Q6;rw[zA h0]
  rw[eS];exact⟨⟨h,Kp.refl A,rfl⟩,λ_ _=>Iff.rfl,λhx=>(h0 hx).elim,λ_=>rfl⟩
end Go.Ar
namespace Go.Ar
open Go.Bu (Y3 QL runS Zf WaY allF KY V5 give take Kj Ki Bounded full can YF UD ZA QN ZL Kf QP Qb VV UY take_in)
variable {A:AR}{sp:Sp}{k:Nat}{c:Cls}{ss:List SpA}
structure Ow (A:AR) (sp:Sp):Prop where
 l:sp.st.length=A.n
 own:∀p,A.f p≠0->gf sp.st p≠0
 cl:∀p,A.f p=3->gf sp.st p=1
 le:∀p,gf sp.st p<=2
structure St (A B:AR) (sp sp':Sp):Prop where
 ga:GA B
 ow:Ow B sp'
 n:B.n=A.n
 tb:B.tb=A.tb
 room:B.room=A.room
 same:∀p,A.f p=0->B.f p=0->gf sp'.st p=gf sp.st p
 gone:∀p,A.f p≠0->B.f p=0->gf sp'.st p=0
 new:∀p,A.f p=0->B.f p≠0->gf sp.st p=0/\16<=p
theorem St.refl (h:GA A)(hw:Ow A sp):St A A sp sp:=⟨h,hw,rfl,rfl,rfl,λ_ _ _=>rfl,λp h1 h2=>(h1 h2).elim,λp h1 h2=>(h2 h1).elim⟩
theorem Ow.len {B C:AR}{sp sp':Sp}(h:Ow B sp)(k:Ow C sp')(e:C.n=B.n):sp'.st.length=sp.st.length:=by rw[h.l,k.l,e]
theorem St.trans {B C:AR}{sp' sp'':Sp}(h:St A B sp sp')(k:St B C sp' sp''):St A C sp sp'':=by
 refine⟨k.ga,k.ow,k.n.trans h.n,k.tb.trans h.tb,k.room.trans h.room,λp hA hC=>?_,λp hA hC=>?_,λp hA hC=>?_⟩
 ·by_cases hB:B.f p=0
  ·rw[k.same p hB hC,h.same p hA hB]
  ·rw[k.gone p hB hC,(h.new p hA hB).1]
 ·by_cases hB:B.f p=0
  ·rw[k.same p hB hC,h.gone p hA hB]
  ·exact k.gone p hB hC
 ·by_cases hB:B.f p=0
  ·have:=k.new p hB hC;rw[h.same p hA hB]at this;exact this
  ·exact h.new p hA hB
theorem Ow.kp {B:AR}(hw:Ow A sp)(h:Kp A B):Ow B sp:=⟨hw.l.trans h.n.symm,λp hp=>hw.own p λe=>hp ((h.z p).2 e),λp hp=>hw.cl p (h.t p hp),hw.le⟩
theorem St.kp {B:AR}(hg:GA B)(hw:Ow A sp)(h:Kp A B):St A B sp sp:=
 ⟨hg,hw.kp h,h.n,h.tb,h.room,λ_ _ _=>rfl,λp h1 h2=>(h1 ((h.z p).1 h2)).elim,λp h1 h2=>(h2 ((h.z p).2 h1)).elim⟩
theorem Ob.st {B:AR}(o:Ob A B)(hw:Ow A sp):St A B sp sp:=St.kp o.ga hw o.kp
theorem GA.grown (h:GA A){B:AR}{sp':Sp}{s size:Nat}(g:Grown A B sp sp' s size):GA B:=by
 have e:∀{j d tt},Cl B j d tt↔Cl A j d tt:=λ{j d tt}=>by unfold Cl;rw[g.tb,g.cen]
 exact⟨g.pg,by rw[g.tb];exact h.tb,by rw[g.cen,g.tb];exact h.lc,by rw[g.tra,g.tb];exact h.lt,λj d tt hj=>h.cen j d tt (e.1 hj),λj d tt hj=>h.one j d tt (e.1 hj),λj d tt hj p=>by rw[g.ow];exact h.ow j d tt (e.1 hj) p,
  λp=>by rw[g.ow,g.runs];exact h.ow41 p,λp=>by rw[g.ow,g.tb];exact h.owb p,by rw[g.runs];exact h.rpos,by rw[g.runs];exact h.rdis,by rw[g.tra];exact h.trn,λj d tt t hj ht=>h.trt j d tt t (e.1 hj) (by rw[←g.tra];exact ht),by rw[g.tb,g.tra];exact h.trb⟩
theorem Grown.st (h:GA A)(hw:Ow A sp){B:AR}{sp':Sp}{s size:Nat}(g:Grown A B sp sp' s size):St A B sp sp':=by
 have hin:∀p,B.f p≠A.f p->s<=p/\p<s+size:=λp hp=>by
  apply Classical.byContradiction;intro hn;exact hp (g.o p hn).1
 refine⟨h.grown g,⟨g.l.trans (hw.l.trans g.n.symm),λp hp=>?_,λp hp=>?_,λp=>?_⟩,g.n,g.tb,g.room,λp h1 h2=>?_,λp h1 h2=>?_,λp h1 h2=>?_⟩
 ·by_cases hi:s<=p/\p<s+size
  ·rw[(g.i p hi.1 hi.2).2];omega
  ·rw[(g.o p hi).2];rw[(g.o p hi).1]at hp;exact hw.own p hp
 ·by_cases hi:s<=p/\p<s+size
  ·rw[(g.i p hi.1 hi.2).2]
  ·rw[(g.o p hi).2];rw[(g.o p hi).1]at hp;exact hw.cl p hp
 ·by_cases hi:s<=p/\p<s+size
  ·rw[(g.i p hi.1 hi.2).2];omega
  ·rw[(g.o p hi).2];exact hw.le p
 ·refine(g.o p λhi=>?_).2;rw[(g.i p hi.1 hi.2).1]at h2;omega
 ·have:=hin p (by omega);rw[(g.i p this.1 this.2).1]at h2;omega
 ·have:=hin p (by omega);exact⟨g.un p this.1 this.2,by have:=g.s1;omega⟩
theorem WdZ {n:Nat}{S:Nat->Bool}(hb:Bounded S n)(hn:n<=1024){j q m a:Nat}(hf:full S j q=true)(hm:m<=2^j)(ha:a<=2^j):Zf n S m a≠none:=by
 intro h0;have hp:S (q*2^j)=true:=YF.1 hf _ (zFN _ (zw j));obtain⟨i,hi⟩:=UD hb hp;have hij:j<=i:=by
  apply Classical.byContradiction;intro hlt;exact QN hi hf rfl (zFN _ (zw j)) (by omega)
 have hfb:=ZL hb (ZA.1 hi).1;have hi10:i<11:=by
  apply Classical.byContradiction;intro hge;have:2^11<=2^i:=zBL (by omega) (by omega);omega
 have hpow:2^j<=2^i:=zBL (by omega) hij;have:=UY h0 i hi10 (by omega) (by omega);have hmem:=(QP hb (k:=i)).2 ⟨_,rfl,hi⟩;rw[this]at hmem;simp at hmem
theorem Waj (m:Nat):Q1 m=16\/Q1 m=32\/Q1 m=64:=by
 unfold Q1;split
 ·exact .inl rfl
 ·split
  ·exact .inr (.inl rfl)
  ·exact .inr (.inr rfl)
theorem Wiq {m:Nat}(h:m<=64):m<=Q1 m:=by
 unfold Q1;split
 ·omega
 ·split<;>omega
theorem Wbs (h:GA A)(hw:Ow A sp){m a no:Nat}(h1:1<=m)(h2:m<=64)(ha:1<=a/\a<=16) :
 (getA A sp m a no=(none,A,sp)/\Zf A.n A.S m a=none/\growStart sp (Q1 (max m a))=none) ∨
 ∃x A1 sp1,getA A sp m a no=(some x,useA A1 x m no,sp1)/\Zf A1.n A1.S m a=some x/\(A1=A/\sp1=sp\/Zf A.n A.S m a=none/\∃s,growStart sp (Q1 (max m a))=some s/\Grown A A1 sp sp1 s (Q1 (max m a))):=by
 cases ht:Zf A.n A.S m a with
 | some x=>exact .inr ⟨x,A,sp,by unfold getA;rw[ht],ht,.inl ⟨rfl,rfl⟩⟩
 | none=>
  cases hg:UG A sp (Q1 (max m a))with
  | none=>
   refine .inl ⟨by unfold getA;rw[ht,hg],rfl,?_⟩;unfold UG at hg;split at hg
   ·assumption
   ·cases hg
  | some r=>
   obtain⟨A1,sp1⟩:=r;obtain⟨s,hs,g⟩:=Wjf h.pg hw.l (λp hp=>Classical.byContradiction λhn=>hw.own p hn hp) (Waj _) hg;have hne:Zf A1.n A1.S m a≠none:=by
    have hle:=Wiq (m:=max m a) (by omega);obtain⟨_,_,⟨i,hi⟩,_⟩:=UL (by have:=Waj (max m a);omega) hs;have key:∃j,Q1 (max m a)=2^j:=by
     rcases Waj (max m a)with e|e|e
     ·exact⟨4,e⟩
     ·exact⟨5,e⟩
     ·exact⟨6,e⟩
    obtain⟨j,hj⟩:=key;refine WdZ g.pg.bnd g.pg.n2 (j:=j) (q:=i) (YF.2 λp hp=>?_) (by omega) (by omega);rw[g.pg.fr];rw[Qb,←hj,←hi]at hp;rw[(g.i p hp.1 hp.2).1];omega
   obtain⟨x,hx⟩:=Option.ne_none_iff_exists'.1 hne;exact .inr ⟨x,A1,sp1,by unfold getA;rw[ht,hg];simp only;rw[hx],hx,.inr ⟨rfl,s,hs,g⟩⟩
theorem Wct (h:PG A){m a x:Nat}(hx:Zf A.n A.S m a=some x):∀p,x<=p->p<x+m->A.S p=true:=λp p1 p2=>(take_in h.bnd hx).2 p p1 p2
theorem Wju (h:PG A){m a x:Nat}(h1:1<=m)(h4:m<=4)(hx:Zf A.n A.S m a=some x):x/16=(x+m-1)/16:=by
 obtain⟨j,_,hm,_,hh,_⟩:=VV hx;obtain⟨q,rfl,hc⟩:=(QP h.bnd).1 (List.mem_of_head? hh)
 match j,hm with
 | 0,hm=>
  have:m=1:=by omega
  subst this;rfl
 | 1,hm=>
  have:m<=2:=by omega
  simp only[Nat.pow_one]at *;omega
 | j+2,hm=>
  have e:2^(j+2)=4*2^j:=by rw[zDT];omega
  rw[e,←zCV,Nat.mul_comm q 4,zCV];generalize q*2^j=z;omega
theorem WiB (h:PG A){a m no:Nat}(h1:1<=m)(hn:no≠0)(hS:∀p,a<=p->p<a+m->A.S p=true):Kp A (useA A a m no):=by
 obtain⟨o,hi,hpg,hz⟩:=WdS h h1 hn hS;refine⟨rfl,rfl,rfl,hz,λp hp=>?_⟩;by_cases hin:a<=p/\p<a+m
 ·rw[(hi p hin.1 hin.2).1]at hp;omega
 ·rw[o.f p hin]at hp;exact hp
theorem GA.addSpan (h:GA A)(hk:Cl A k c ss){x:Nat}(hS:∀p,x<=p->p<x+c.pages->A.S p=true)(h1:x/16=(x+c.pages-1)/16) :
 GA {useA A x c.pages (k+1)with cen:=(useA A x c.pages (k+1)).cen.set k (addS c ss x)}/\(∀s∈ss,s.st+c.pages<=x\/x+c.pages<=s.st):=by
 have hC:=h.cen k c ss hk;have hpg:=hC.pg;have hkl:=hk.lt;have htb:=h.tb;obtain⟨o,hi,pg,hz⟩:=WdS h.pg hpg (no:=k+1) (by omega) hS;have hA:∀p,x<=p->p<x+c.pages->A.ow p=0:=λp p1 p2=>by
  have h2:=(h.pg.fr p).1 (hS p p1 p2);apply Classical.byContradiction;intro hne;have:=(h.pg.us p).2 hne;omega
 have hd:∀s∈ss,s.st+c.pages<=x\/x+c.pages<=s.st:=λs hs=>by
  apply Classical.byContradiction;intro hn;have h2:=hA (max x s.st) (by omega) (by omega);have:=(h.used hk hs (p:=max x s.st) (by omega) (by omega)).2;omega
 refine⟨?_,hd⟩;have hk':Cl (useA A x c.pages (k+1)) k c ss:=hk;refine⟨pg.same rfl rfl rfl rfl,h.tb,by show(A.cen.set k _).length=_;simp[h.lc];rfl,h.lt,λj d tt hj=>?_,λj d tt hj s hs=>?_,λj d tt hj p=>?_,λp=>?_,λp=>?_,h.rpos,h.rdis,h.trn,λj d tt t hj ht=>?_,h.trb⟩
 ·rcases Uh hk' hj with⟨rfl,rfl,rfl⟩|⟨hne,hj⟩
  ·exact Whm hC hd
  ·exact h.cen j d tt hj
 ·rcases Uh hk' hj with⟨rfl,rfl,rfl⟩|⟨hne,hj⟩
  ·rcases Vt.1 hs with rfl|hs
   ·exact h1
   ·exact h.one _ _ _ hk s hs
  ·exact h.one j d tt hj s hs
 ·show(useA A x c.pages (k+1)).ow p=j+1↔_;by_cases hp:x<=p/\p<x+c.pages
  ·rw[(hi p hp.1 hp.2).2];rcases Uh hk' hj with⟨rfl,rfl,rfl⟩|⟨hne,hj⟩
   ·exact⟨λ_=>⟨_,Vt.2 (.inl rfl),hp.1,hp.2⟩,λ_=>rfl⟩
   ·rw[←h.ow j d tt hj p,hA p hp.1 hp.2];omega
  ·rw[o.ow p hp];rcases Uh hk' hj with⟨rfl,rfl,rfl⟩|⟨hne,hj⟩
   ·rw[h.ow _ _ _ hk p];constructor
    ·rintro⟨s,hs,h3⟩;exact⟨s,Vt.2 (.inr hs),h3⟩
    ·rintro⟨s,hs,h3⟩;rcases Vt.1 hs with rfl|hs
     ·exact(hp h3).elim
     ·exact⟨s,hs,h3⟩
   ·exact h.ow j d tt hj p
 ·show(useA A x c.pages (k+1)).ow p=41↔inR A.runs p;by_cases hp:x<=p/\p<x+c.pages
  ·rw[(hi p hp.1 hp.2).2,←h.ow41,hA p hp.1 hp.2];omega
  ·rw[o.ow p hp];exact h.ow41 p
 ·show(useA A x c.pages (k+1)).ow p=41\/(useA A x c.pages (k+1)).ow p<=A.tb.length;by_cases hp:x<=p/\p<x+c.pages
  ·rw[(hi p hp.1 hp.2).2];omega
  ·rw[o.ow p hp];exact h.owb p
 ·rcases Uh hk' hj with⟨rfl,rfl,rfl⟩|⟨hne,hj⟩
  ·intro y hy;exact(WgL hC hd).2 (h.trt _ _ _ t hk ht y hy)
  ·exact h.trt j d tt t hj ht
theorem GA.addRun (h:GA A){x m:Nat}(hm:1<=m)(hS:∀p,x<=p->p<x+m->A.S p=true):GA {useA A x m 41 with runs:=A.runs++[(x,m)]}:=by
 have htb:=h.tb;obtain⟨o,hi,pg,hz⟩:=WdS h.pg hm (no:=41) (by omega) hS;have hA:∀p,x<=p->p<x+m->A.ow p=0:=λp p1 p2=>by
  have h2:=(h.pg.fr p).1 (hS p p1 p2);apply Classical.byContradiction;intro hne;have:=(h.pg.us p).2 hne;omega
 refine⟨pg.same rfl rfl rfl rfl,h.tb,h.lc,h.lt,h.cen,h.one,λj d tt hj p=>?_,λp=>?_,λp=>?_,λr hr=>?_,?_,h.trn,h.trt,h.trb⟩
 ·have hj:Cl A j d tt:=hj;have:=hj.lt;show(useA A x m 41).ow p=j+1↔_;by_cases hp:x<=p/\p<x+m
  ·rw[(hi p hp.1 hp.2).2,←h.ow j d tt hj p,hA p hp.1 hp.2];omega
  ·rw[o.ow p hp];exact h.ow j d tt hj p
 ·show(useA A x m 41).ow p=41↔inR (A.runs++[(x,m)]) p;by_cases hp:x<=p/\p<x+m
  ·rw[(hi p hp.1 hp.2).2];exact⟨λ_=>⟨(x,m),by simp,hp⟩,λ_=>rfl⟩
  ·rw[o.ow p hp,h.ow41];constructor
   ·rintro⟨r,hr,h3⟩;exact⟨r,by simp[hr],h3⟩
   ·rintro⟨r,hr,h3⟩;rcases zS.1 hr with hr|hr
    ·exact⟨r,hr,h3⟩
    ·simp only[zZ]at hr;subst hr;exact(hp h3).elim
 ·show(useA A x m 41).ow p=41\/(useA A x m 41).ow p<=A.tb.length;by_cases hp:x<=p/\p<x+m
  ·rw[(hi p hp.1 hp.2).2];omega
  ·rw[o.ow p hp];exact h.owb p
 ·rcases zS.1 hr with hr|hr
  ·exact h.rpos r hr
  ·simp only[zZ]at hr;subst hr;exact hm
 ·refine zBO.2 ⟨h.rdis,by simp,λr hr s hs=>?_⟩;simp only[zZ]at hs;subst hs;apply Classical.byContradiction;intro hn;simp only at hn;have:=h.rpos r hr;have h2:=hA (max x r.1) (by omega) (by omega);have:=(h.usedR hr (p:=max x r.1) (by omega) (by omega)).2;omega
theorem WhL {l:List (Nat×Nat)}{x m:Nat}(h:∀r∈l,r.1≠x):takeAS.mset2 l x m=l++[(x,m)]:=by
 unfold takeAS.mset2;rw[zA];simp only[zz,zY,not_exists,not_and];exact h
theorem WaH (h:GA A)(hw:Ow A sp)(k:Int) :
 ((growS A sp k=(A,sp))/\KH A sp k≠0) ∨
 ∃(j:Nat) (c:Cls) (ss:List SpA) (x:Nat) (A1:AR) (sp1:Sp),k=j/\Cl A j c ss/\Cl A1 j c ss/\KH A sp k=0/\growS A sp k=({useA A1 x c.pages (j+1)with cen:=(useA A1 x c.pages (j+1)).cen.set j (addS c ss x)},sp1) ∧
  St A A1 sp sp1/\A1.runs=A.runs/\A1.tra=A.tra/\A1.cen=A.cen/\Zf A1.n A1.S c.pages 1=some x/\(∀s∈ss,s.st+c.pages<=x\/x+c.pages<=s.st)/\St A (growS A sp k).1 sp (growS A sp k).2:=by
 by_cases hck:A.ck k=true
 ·obtain⟨j,rfl,hj⟩:=U9.1 hck;obtain⟨c,ss,t,hk,ht⟩:=h.cl hj;have hC:=h.cen j c ss hk;have hok:=hC.ok;unfold Cls.ok at hok;have hkl:=hk.lt;rcases Wbs h hw (m:=c.pages) (a:=1) (no:=j+1) (by omega) (by omega) (by omega)with⟨hg,_⟩|⟨x,A1,sp1,hg,htk,hor⟩
  ·left;have eE:KH A sp (j:Int)=6:=by unfold KH;rw[hck,zB rfl,iTn,hk.1,hk.2];simp only;rw[hg]
   have eS:growS A sp (j:Int)=(A,sp):=by unfold growS;rw[hck,zB rfl,iTn,hk.1,hk.2];simp only;rw[hg]
   rw[eS,eE];exact⟨rfl,by simp⟩
  ·right;have eE:KH A sp (j:Int)=Gs c ss x:=by unfold KH;rw[hck,zB rfl,iTn,hk.1,hk.2];simp only;rw[hg]
   have g1:GA A1:=by
    rcases hor with⟨rfl,rfl⟩|⟨_,s,_,g⟩
    ·exact h
    ·exact h.grown g
   have hst:St A A1 sp sp1:=by
    rcases hor with⟨rfl,rfl⟩|⟨_,s,_,g⟩
    ·exact St.refl h hw
    ·exact g.st h hw
   have hfr:A1.runs=A.runs/\A1.tra=A.tra/\A1.cen=A.cen:=by
    rcases hor with⟨rfl,rfl⟩|⟨_,s,_,g⟩
    ·exact⟨rfl,rfl,rfl⟩
    ·exact⟨g.runs,g.tra,g.cen⟩
   have hk1:Cl A1 j c ss:=⟨by rw[hst.tb];exact hk.1,by rw[hfr.2.2];exact hk.2⟩;have hS:=Wct g1.pg htk;obtain⟨g2,hd⟩:=g1.addSpan hk1 hS (Wju g1.pg (by omega) (by omega) htk);have e0:=Wkp hd;have eS':growS A sp (j:Int)=({useA A1 x c.pages (j+1)with cen:=(useA A1 x c.pages (j+1)).cen.set j (addS c ss x)},sp1):=by
    unfold growS;rw[hck,zB rfl,iTn,hk.1,hk.2];simp only;rw[hg];simp only;rw[zB e0]
   refine⟨j,c,ss,x,A1,sp1,rfl,hk,hk1,by rw[eE];exact e0,eS',hst,hfr.1,hfr.2.1,hfr.2.2,htk,hd,?_⟩;rw[eS'];have kp:=WiB g1.pg (no:=j+1) (by omega) (by omega) hS;exact hst.trans (St.kp g2 hst.ow (kp.trans (Kp.pages rfl rfl rfl rfl)))
 ·left;have hck':A.ck k=false:=by simpa using hck
  unfold growS KH;rw[hck'];exact⟨rfl,by simp⟩
theorem Wjy (h:GA A)(hw:Ow A sp)(k:Int):St A (growS A sp k).1 sp (growS A sp k).2/\(growS A sp k).1.runs=A.runs/\(growS A sp k).1.tra=A.tra/\(∀j y,TkA (growS A sp k).1 j y↔TkA A j y)/\(KH A sp k≠0->growS A sp k=(A,sp)):=by
 rcases WaH h hw k with⟨e,_⟩|⟨j,c,ss,x,A1,sp1,rfl,hk,hk1,hE,e,hst,r1,r2,r3,_,hd,hS⟩
 ·rw[e];exact⟨St.refl h hw,rfl,rfl,λ_ _=>Iff.rfl,λ_=>rfl⟩
 ·refine⟨hS,by rw[e];exact r1,by rw[e];exact r2,λi y=>?_,λhn=>(hn hE).elim⟩;rw[e];have hk2:Cl (useA A1 x c.pages (j+1)) j c ss:=hk1;rw[WbV hk2,WgL (h.cen j c ss hk) hd];have e2:TkA (useA A1 x c.pages (j+1)) i y↔TkA A i y:=by
   have:(useA A1 x c.pages (j+1)).tb=A.tb/\(useA A1 x c.pages (j+1)).cen=A.cen:=⟨hst.tb,r3⟩;unfold TkA Cl;rw[this.1,this.2]
  rw[e2];by_cases hij:i=j
  ·subst hij;rw[KM hk];exact⟨λhx=>by rcases hx with⟨_,hx⟩|⟨hx,_⟩;exact hx;exact(hx rfl).elim,λhx=>.inl ⟨rfl,hx⟩⟩
  ·exact⟨λhx=>by rcases hx with⟨hx,_⟩|⟨_,hx⟩;exact(hij hx).elim;exact hx,λhx=>.inr ⟨hij,hx⟩⟩
theorem WdI {m a:Int}(h:Kd m a=true):∃x y:Nat,m=x/\a=y/\1<=x/\x<=64/\(y=1\/y=2\/y=4\/y=8\/y=16):=by
 unfold Kd at h;simp only[zF,zP,zAR,zY]at h;exact⟨m.toNat,a.toNat,by omega,by omega,by omega,by omega,by omega⟩
theorem Wdt (h:GA A)(hw:Ow A sp)(m a:Int) :
 (takeAS A sp m a=(A,sp)/\Qv A sp m a≠0/\(Kd m a=true->Qv A sp m a=6/\Zf A.n A.S m.toNat a.toNat=none/\growStart sp (Q1 (max m.toNat a.toNat))=none)) ∨
 ∃(x:Nat) (A1:AR) (sp1:Sp),Kd m a=true/\Qv A sp m a=0/\Z4 A sp m a=x/\takeAS A sp m a=({useA A1 x m.toNat 41 with runs:=A.runs++[(x,m.toNat)]},sp1) ∧
  Zf A1.n A1.S m.toNat a.toNat=some x/\(A1=A/\sp1=sp\/Zf A.n A.S m.toNat a.toNat=none/\∃s,growStart sp (Q1 (max m.toNat a.toNat))=some s/\Grown A A1 sp sp1 s (Q1 (max m.toNat a.toNat))) ∧
  St A (takeAS A sp m a).1 sp (takeAS A sp m a).2/\(takeAS A sp m a).1.tra=A.tra/\(∀j y,TkA (takeAS A sp m a).1 j y↔TkA A j y):=by
 by_cases hp:Kd m a=true
 ·obtain⟨m',a',rfl,rfl,h1,h2,h3⟩:=WdI hp;have eE:Qv A sp (m':Int) (a':Int)=if(getA A sp m' a' 41).1.isSome then 0 else 6:=by unfold Qv;rw[zB hp,iTn,iTn]
  have eV:Z4 A sp (m':Int) (a':Int)=(getA A sp m' a' 41).1.getD 0:=by unfold Z4;rw[zB hp,iTn,iTn]
  rcases Wbs h hw (m:=m') (a:=a') (no:=41) h1 h2 (by omega)with⟨hg,hn1,hn2⟩|⟨x,A1,sp1,hg,htk,hor⟩
  ·left;have eS:takeAS A sp (m':Int) (a':Int)=(A,sp):=by unfold takeAS;rw[zB hp,iTn,iTn,hg]
   rw[eS,eE,hg,iTn,iTn];exact⟨rfl,by simp,λ_=>⟨rfl,hn1,hn2⟩⟩
  ·right;have g1:GA A1:=by
    rcases hor with⟨rfl,rfl⟩|⟨_,s,_,g⟩
    ·exact h
    ·exact h.grown g
   have hst:St A A1 sp sp1:=by
    rcases hor with⟨rfl,rfl⟩|⟨_,s,_,g⟩
    ·exact St.refl h hw
    ·exact g.st h hw
   have hfr:A1.runs=A.runs/\A1.tra=A.tra/\A1.cen=A.cen:=by
    rcases hor with⟨rfl,rfl⟩|⟨_,s,_,g⟩
    ·exact⟨rfl,rfl,rfl⟩
    ·exact⟨g.runs,g.tra,g.cen⟩
   have hS:=Wct g1.pg htk;have hnew:∀r∈A.runs,r.1≠x:=λr hr e=>by
    have hr1:r∈A1.runs:=by rw[hfr.1];exact hr
    have:=g1.rpos r hr1;have h5:=(g1.usedR hr1 (p:=x) (by omega) (by omega)).1;have h6:=(g1.pg.fr x).1 (hS x (by omega) (by omega));omega
   have eS':takeAS A sp (m':Int) (a':Int)=({useA A1 x m' 41 with runs:=A.runs++[(x,m')]},sp1):=by
    unfold takeAS;rw[zB hp,iTn,iTn,hg];show({useA A1 x m' 41 with runs:=takeAS.mset2 A1.runs x m'},sp1)=_;rw[hfr.1,WhL hnew]
   have g2:=g1.addRun (by omega) hS;rw[hfr.1]at g2;have kp:=WiB g1.pg (no:=41) (by omega) (by omega) hS;refine⟨x,A1,sp1,hp,by rw[eE,hg];rfl,by rw[eV,hg];rfl,by rw[iTn];exact eS',by rw[iTn,iTn];exact htk,by rw[iTn,iTn];exact hor,?_,by rw[eS'];exact hfr.2.1,λj y=>?_⟩
   ·rw[eS'];exact hst.trans (St.kp g2 hst.ow (kp.trans (Kp.pages rfl rfl rfl rfl)))
   ·rw[eS'];have e1:({useA A1 x m' 41 with runs:=A.runs++[(x,m')]}:AR).tb=A.tb:=hst.tb;have e2:({useA A1 x m' 41 with runs:=A.runs++[(x,m')]}:AR).cen=A.cen:=hfr.2.2;unfold TkA Cl;rw[e1,e2]
 ·left;have hp':Kd m a=false:=by simpa using hp
  unfold takeAS Qv;rw[hp'];exact⟨rfl,by simp,λhx=>by cases hx⟩
theorem Wgd {x:Int}{r:Nat×Nat}(h:Wa0 A x=some r):r∈A.runs/\x=(r.1:Int):=by
 unfold Wa0 at h;exact⟨zCZ h,by have:=zCY h;simpa using Eq.symm (by simpa using this)⟩
theorem WgT (h:GA A)(x:Int):(Kp A (Qz A x)/\GA (Qz A x))/\(Qz A x).tra=A.tra/\(∀j y,TkA (Qz A x) j y↔TkA A j y)/\(KN A x≠0->Qz A x=A) ∧
 (KN A x=0->∃r∈A.runs,x=(r.1:Int)/\(Qz A x).runs=A.runs.filter λq=>!(q==r)):=by
 cases hr:Wa0 A x with
 | none=>
  have e:Qz A x=A:=by unfold Qz;rw[hr]
  have eE:KN A x=8:=by unfold KN;rw[hr];rfl
  rw[e,eE];exact⟨⟨Kp.refl A,h⟩,rfl,λ_ _=>Iff.rfl,λ_=>rfl,λhx=>by cases hx⟩
 | some r=>
  obtain⟨hrm,hx⟩:=Wgd hr;have hpos:=h.rpos r hrm;have hfil:A.runs.filter (λq=>!((q.1:Int)==x))=A.runs.filter λq=>!(q==r):=by
   apply zEU;intro q hq;have:((q.1:Int)==x)=(q==r):=by
    rw[zBF];simp only[zY];constructor
    ·intro e;have hq1:=h.rpos q hq;exact h.runs_uniq hq hrm (x:=q.1) (by omega) (by omega) (by omega) (by omega)
    ·rintro rfl;exact hx.symm
   rw[this]
  have e:Qz A x=VR {A with runs:=A.runs.filter λq=>!(q==r)} r:=by unfold Qz;rw[hr];simp only;rw[hfil]
  have eE:KN A x=0:=by unfold KN;rw[hr];rfl
  obtain⟨a,m⟩:=r;obtain⟨o,hi,pg,hz⟩:=WeP (A:={A with runs:=A.runs.filter λq=>!(q==(a,m))}) (h.pg.same rfl rfl rfl rfl) hpos (λp p1 p2=>(h.usedR hrm p1 p2).1);have own:∀p,a<=p->p<a+m->A.ow p=41:=λp p1 p2=>(h.usedR hrm p1 p2).2;have htb:=h.tb;rw[e,eE];refine⟨⟨⟨rfl,rfl,rfl,hz,λp hp=>?_⟩,?_⟩,rfl,λ_ _=>Iff.rfl,λhx=>(hx rfl).elim,λ_=>⟨_,hrm,hx,rfl⟩⟩
  ·by_cases hin:a<=p/\p<a+m
   ·rw[(hi p hin.1 hin.2).1]at hp;omega
   ·rw[o.f p hin]at hp;exact hp
  ·refine⟨pg,h.tb,h.lc,h.lt,h.cen,h.one,λj d tt hj p=>?_,λp=>?_,λp=>?_,λq hq=>h.rpos q (zG.1 hq).1,h.rdis.filter _,h.trn,h.trt,h.trb⟩
   ·have hj:Cl A j d tt:=hj;have:=hj.lt;by_cases hin:a<=p/\p<a+m
    ·rw[(hi p hin.1 hin.2).2,←h.ow j d tt hj p,own p hin.1 hin.2];omega
    ·rw[o.ow p hin];exact h.ow j d tt hj p
   ·show _↔inR (A.runs.filter λq=>!(q==(a,m))) p;by_cases hin:a<=p/\p<a+m
    ·rw[(hi p hin.1 hin.2).2];constructor
     ·intro hx;omega
     ·rintro⟨q,hq,q1,q2⟩;have hq':=zG.1 hq;have:=h.runs_uniq hq'.1 hrm q1 q2 hin.1 hin.2;subst this;simp at hq'
    ·rw[o.ow p hin];show A.ow p=41↔_;rw[h.ow41];constructor
     ·rintro⟨q,hq,q1⟩;refine⟨q,zG.2 ⟨hq,?_⟩,q1⟩;have:q≠(a,m):=by rintro rfl;exact hin q1
      simpa using this
     ·rintro⟨q,hq,q1⟩;exact⟨q,(zG.1 hq).1,q1⟩
   ·by_cases hin:a<=p/\p<a+m
    ·rw[(hi p hin.1 hin.2).2];omega
    ·rw[o.ow p hin];exact h.owb p
theorem WgO (hk:Cl A k c ss):QH A k=swp A k c ss:=by unfold QH swp;rw[hk.1,hk.2]
theorem Wdd (h:GA A):∀m,m<=A.tb.length->Ob A ((List.range m).foldl QH A)/\((List.range m).foldl QH A).tra=A.tra/\∀j y,TkA ((List.range m).foldl QH A) j y↔TkA A j y
 | 0,_=>⟨⟨h,Kp.refl A,rfl⟩,rfl,λ_ _=>Iff.rfl⟩
 | m+1,hm=>by
  obtain⟨o,e,t⟩:=Wdd h m (by omega);rw[zr,zv,zAB,List.foldl_nil];generalize (List.range m).foldl QH A=B at o e t;obtain⟨c,ss,_,hk,_⟩:=o.ga.cl (k:=m) (by rw[o.kp.tb];omega);rw[WgO hk];have b:=o.ga.swpB hk;exact⟨⟨o.ga.swp hk,o.kp.trans (o.ga.swpK hk),b.runs.trans o.runs⟩,b.tra.trans e,λj y=>(o.ga.swpT hk).trans (t j y)⟩
theorem Ui (h:GA A):Ob A (YB A)/\(YB A).tra=A.tra/\∀j y,TkA (YB A) j y↔TkA A j y:=Wdd h _ (zC _)
theorem WdP (k:Nat):∀(outs:List (List Int)) {A:AR},GA A->outs.flatten.Nodup->(∀x∈outs.flatten,TkA A k x/\¬InT A k x) →
 Ob A (outs.foldl (λA' xs=>Y1 A' (k:Int) xs) A)/\(outs.foldl (λA' xs=>Y1 A' (k:Int) xs) A).tra=A.tra/\∀j y,TkA (outs.foldl (λA' xs=>Y1 A' (k:Int) xs) A) j y↔TkA A j y/\¬(j=k/\y∈outs.flatten)
 | [],A,h,_,_=>⟨⟨h,Kp.refl A,rfl⟩,rfl,by simp⟩
 | xs::outs,A,h,hn,ht=>by
  rw[zDW]at hn ht;have hn':=zBN.1 hn;have htx:∀x∈xs,TkA A k x/\¬InT A k x:=λx hx=>ht x (zAW _ hx);rw[zAB];cases xs with
  | nil=>
   have hE:Y1 A (k:Int) []=A\/QU A (k:Int) []=0:=by
    by_cases h0:QU A (k:Int) []=0
    ·exact .inr h0
    ·exact .inl (by unfold Y1;rw[zA h0])
   obtain⟨o,e,t,_⟩:=WbX h (k:=(k:Int)) (xs:=[]) (λ_=>by simp);have t':∀j y,TkA (Y1 A (k:Int) []) j y↔TkA A j y:=λj y=>by
    rcases hE with hE|hE
    ·rw[hE]
    ·rw[t hE];simp
   have hin:∀j y,InT (Y1 A (k:Int) []) j y↔InT A j y:=λj y=>by unfold InT;rw[e]
   obtain⟨o2,e2,t2⟩:=WdP k outs o.ga hn'.2.1 λx hx=>by rw[t',hin];exact ht x (zBP _ hx)
   exact⟨⟨o2.ga,o.kp.trans o2.kp,o2.runs.trans o.runs⟩,e2.trans e,λj y=>by rw[t2,t'];simp⟩
  | cons x0 xs=>
   obtain⟨c,ss,hk,_⟩:=(htx x0 (by simp)).1;have h0:QU A (k:Int) (x0::xs)=0:=by
    rw[HB h hk];exact Wg8 ⟨λx hx=>(KM hk).1 (htx x hx).1,hn'.1⟩
   obtain⟨o,e,t,_⟩:=WbX h (k:=(k:Int)) (xs:=x0::xs) (λ_ x hx=>by rw[iTn];exact(htx x hx).2);have t':=t h0;have hin:∀j y,InT (Y1 A (k:Int) (x0::xs)) j y↔InT A j y:=λj y=>by unfold InT;rw[e]
   obtain⟨o2,e2,t2⟩:=WdP k outs o.ga hn'.2.1 λx hx=>by
    rw[t',hin];have:=ht x (zBP _ hx);exact⟨⟨this.1,λhy=>hn'.2.2 x hy.2 x hx rfl⟩,this.2⟩
   refine⟨⟨o2.ga,o.kp.trans o2.kp,o2.runs.trans o.runs⟩,e2.trans e,λj y=>?_⟩;rw[t2,t',iTn,zDW,zS];constructor
   ·rintro⟨⟨a,b⟩,d⟩;refine⟨a,λ⟨hj,hy⟩=>?_⟩;rcases hy with hy|hy
    ·exact b ⟨hj,hy⟩
    ·exact d ⟨hj,hy⟩
   ·rintro⟨a,b⟩;exact⟨⟨a,λ⟨hj,hy⟩=>b ⟨hj,.inl hy⟩⟩,λ⟨hj,hy⟩=>b ⟨hj,.inr hy⟩⟩
structure Tck (A B:AR):Prop where
 ob:Ob A B
 sub:∀j y,InT B j y->InT A j y
 tk:∀j y,TkA B j y↔TkA A j y/\(InT A j y->InT B j y)
theorem Tck.trans {B C:AR}(h:Tck A B)(k:Tck B C):Tck A C:=
 ⟨⟨k.ob.ga,h.ob.kp.trans k.ob.kp,k.ob.runs.trans h.ob.runs⟩,λj y hx=>h.sub j y (k.sub j y hx),λj y=>by
  rw[k.tk,h.tk];exact⟨λ⟨⟨a,b⟩,d⟩=>⟨a,λe=>d (b e)⟩,λ⟨a,b⟩=>⟨⟨a,λe=>k.sub j y (b e)⟩,λe=>b (h.sub j y e)⟩⟩⟩
theorem Wh3 (h:GA A)(hk:k<A.tb.length):Tck A (Ku A k):=by
 obtain⟨c,ss,t,hc,ht⟩:=h.cl hk;have hkl:k<A.tra.length:=by rw[h.lt];exact hk
 have e:Ku A k=t.out.foldl (λA' xs=>Y1 A' (k:Int) xs) {A with tra:=A.tra.set k t.tick}:=by unfold Ku;rw[ht]
 have hsp:t.bs=t.out++t.tick.bs:=(zBG ((t.low+1)/2) t.bs).symm;have hfl:t.bs.flatten=t.out.flatten++t.tick.bs.flatten:=by conv=>lhs;rw[hsp];rw[List.flatten_append]
 have hnd:=h.trn k t ht;rw[hfl]at hnd;have hnd':=zBN.1 hnd;have htk:∀x∈t.bs.flatten,TkA A k x:=λx hx=>(KM hc).2 (h.trt k c ss t hc ht x hx);have g1:GA {A with tra:=A.tra.set k t.tick}:=h.setTra hnd'.2.1 (λx hx=>htk x (by rw[hfl];exact zBP _ hx)) λc' hc' xs hxs=>h.trb k c' t hc' ht xs (t.tick_sub xs hxs);obtain⟨o,e2,t2⟩:=WdP k t.out g1 hnd'.1 λx hx=>by
  refine⟨htk x (by rw[hfl];exact zAW _ hx),?_⟩;rw[WbT hkl];rintro(⟨_,hy⟩|⟨hy,_⟩)
  ·exact hnd'.2.2 x hx x hy rfl
  ·exact hy rfl
 rw[←e]at o e2 t2;have hin:∀j y,InT (Ku A k) j y↔(j=k/\y∈t.tick.bs.flatten)\/(j≠k/\InT A j y):=λj y=>by
  rw[←WbT hkl];unfold InT;rw[e2]
 refine⟨⟨o.ga,(Kp.pages rfl rfl rfl rfl:Kp A {A with tra:=A.tra.set k t.tick}).trans o.kp,o.runs⟩,λj y hx=>?_,λj y=>?_⟩
 ·rcases(hin j y).1 hx with⟨rfl,hy⟩|⟨_,hy⟩
  ·rw[HX ht,hfl];exact zBP _ hy
  ·exact hy
 ·rw[t2,hin];show TkA A j y/\_↔_;by_cases hjk:j=k
  ·subst hjk;rw[HX ht,hfl,zS];constructor
   ·rintro⟨a,b⟩;refine⟨a,λhx=>?_⟩;rcases hx with hx|hx
    ·exact(b ⟨rfl,hx⟩).elim
    ·exact .inl ⟨rfl,hx⟩
   ·rintro⟨a,b⟩;refine⟨a,λ⟨_,hx⟩=>?_⟩;rcases b (.inl hx)with⟨_,hy⟩|⟨hy,_⟩
    ·exact hnd'.2.2 y hx y hy rfl
    ·exact hy rfl
  ·exact⟨λ⟨a,_⟩=>⟨a,λhx=>.inr ⟨hjk,hx⟩⟩,λ⟨a,_⟩=>⟨a,λ⟨hx,_⟩=>hjk hx⟩⟩
theorem Wfa (h:GA A):∀m,m<=A.tb.length->Tck A ((List.range m).foldl Ku A)
 | 0,_=>⟨⟨h,Kp.refl A,rfl⟩,λ_ _=>id,λ_ _=>⟨λa=>⟨a,id⟩,λa=>a.1⟩⟩
 | m+1,hm=>by
  have t:=Wfa h m (by omega);rw[zr,zv,zAB,List.foldl_nil];exact t.trans (Wh3 t.ob.ga (by rw[t.ob.kp.tb];omega))
theorem Wjs (h:GA A):Tck A (UU A):=Wfa h _ (by rw[h.lt];exact zC _)
end Go.Ar
namespace Go.Ar
open Go.Bu (Y3 QL runS Zf WaY allF KY V5 give take Kj Ki Bounded)
variable {A:AR}{sp:Sp}{k:Nat}{c:Cls}{ss:List SpA}
theorem WbC {st:List Nat}{a m v:Nat}(hl:a+m<=st.length):v∈(st.drop a).take m↔∃p,a<=p/\p<a+m/\gf st p=v:=by
 constructor
 ·intro hm;obtain⟨i,hi⟩:=zM hm;rw[zX]at hi;split at hi
  ·rename_i hlt;rw[zj]at hi;refine⟨a+i,by omega,by omega,?_⟩;unfold gf;rw[zL,hi];rfl
  ·cases hi
 ·rintro⟨p,h1,h2,h3⟩;have hp:p<st.length:=by omega
  unfold gf at h3;rw[zL,gGe hp]at h3;refine zD (i:=p-a) ?_;rw[zX,zB (by omega),zj,show a+(p-a)=p by omega,gGe hp];exact congrArg some h3
theorem Hk {st:List Nat}{a b v:Nat}(hab:a<=b)(hb:b<=st.length):cntR st a b v=0↔∀p,a<=p->p<b->gf st p≠v:=by
 unfold cntR;rw[zEM,WbC (by omega)];constructor
 ·intro h p h1 h2 h3;exact h ⟨p,h1,by omega,h3⟩
 ·rintro h ⟨p,h1,h2,h3⟩;exact h p h1 (by omega) h3
theorem Wcw {s m v:Nat}(h1:1<=m)(h2:s+m<=sp.st.length)(h:∀p,s<=p->p<s+m->gf sp.st p≠0):leaveS sp (s:Int) (m:Int) v=sp.set s m v:=by
 unfold leaveS leaveE;rw[zB (Vb.2 ⟨h1,h2⟩),iTn,iTn,(WhV h2).2 h];rfl
theorem Wlg {s m v:Nat}(h2:s+m<=sp.st.length)(p:Nat):gf (sp.set s m v).st p=if s<=p/\p<s+m then v else gf sp.st p:=He h2
theorem Wk9 {s m v x:Nat}(h:¬(s<=x/32/\x/32<s+m)):(sp.set s m v).wd x=sp.wd x:=by
 show(if s*32<=x/\x<(s+m)*32 then 0 else sp.wd x)=_
 rw[zA (by omega)]
structure Trm (A B:AR) (sp sp':Sp) (l:List Nat):Prop where
 st:St A B sp sp'
 f:∀p,B.f p=if p/16∈l then 0 else A.f p
 ow:B.ow=A.ow
 tra:B.tra=A.tra
 cen:B.cen=A.cen
 runs:B.runs=A.runs
 wd:∀x,x/32/16∉l->sp'.wd x=sp.wd x
 gf:∀p,p/16∉l->gf sp'.st p=gf sp.st p
 pk:sp'.pk=sp.pk
theorem WjC (h:GA A)(hw:Ow A sp){g:Nat}(hg:16*g+16<=A.n)(hi:∀p,p/16=g->2<=A.f p):Trm A (Ve (A,sp) g).1 sp (Ve (A,sp) g).2 [g]:=by
 have hin:∀p,16*g<=p/\p<16*g+16↔p/16=g:=λp=>by omega
 have e1:(Ve (A,sp) g).1.st=setR A.st (16*g) (16*g+16) 0:=by
  show remT A.st (g:Int)=_;have hid:Wf9 A.st g=true:=by
   unfold Wf9;have h1:=hi (16*g) (by omega);have h2:=(Hk (st:=A.st) (a:=16*g) (b:=16*g+16) (v:=1) (by omega) (by rw[h.pg.len];exact hg)).2 λp p1 p2 e=>by
    have:=hi p (by omega);unfold AR.f at this;omega
   unfold AR.f gf at h1;have hne:A.st.getD (16*g) 0≠0:=by omega
   rw[h2,bne_iff_ne.2 hne];rfl
  unfold remT remE;rw[UF (by rw[h.pg.len];exact hg),zB rfl,iTn,hid];rfl
 have e2:(Ve (A,sp) g).1.S=take A.S (g*16) (g*16+16):=Wmv (n:=A.n) (S:=A.S) (a:=g*16) (m:=16) (by omega) (by omega) λp p1 p2=>by rw[h.pg.fr];exact hi p (by omega)
 have e3:(Ve (A,sp) g).2=sp.set (g*16) 16 0:=Wcw (sp:=sp) (s:=g*16) (m:=16) (v:=0) (by omega) (by rw[hw.l];omega) λp p1 p2=>hw.own p (by have:=hi p (by omega);omega);have hl2:g*16+16<=sp.st.length:=by rw[hw.l];omega
 have ef:∀p,(Ve (A,sp) g).1.f p=if p/16=g then 0 else A.f p:=λp=>by
  unfold AR.f;rw[e1,He (by rw[h.pg.len];exact hg)];by_cases hp:p/16=g
  ·rw[zB hp,zB ((hin p).2 hp)]
  ·rw[zA hp,zA (λhx=>hp ((hin p).1 hx))]
 have eg:∀p,gf (Ve (A,sp) g).2.st p=if p/16=g then 0 else gf sp.st p:=λp=>by
  rw[e3,Wlg hl2];by_cases hp:p/16=g
  ·rw[zB hp,zB (by omega)]
  ·rw[zA hp,zA (by omega)]
 have pg:PG (Ve (A,sp) g).1:=by
  refine⟨by rw[e1,Qi];exact h.pg.len,h.pg.n1,h.pg.n2,h.pg.n16,λp=>?_,λp=>?_,λp=>?_,λp=>?_⟩
  ·rw[ef];have:=h.pg.le p;split<;>omega
  ·rw[ef];show _↔A.ow p≠0;have:=h.pg.us p;by_cases hp:p/16=g
   ·rw[zB hp];have:=hi p hp;constructor
    ·intro hx;omega
    ·intro hx;have:=(h.pg.us p).2 hx;omega
   ·rw[zA hp];exact this
  ·rw[ef,e2,Ki];have:=h.pg.fr p;by_cases hp:p/16=g
   ·rw[zB hp];constructor
    ·rintro⟨_,hx⟩;exact(hx (by omega)).elim
    ·intro hx;omega
   ·rw[zA hp];constructor
    ·rintro⟨hx,_⟩;exact this.1 hx
    ·intro hx;exact⟨this.2 hx,by omega⟩
  ·rw[ef,ef];have e:p/16*16/16=p/16:=by omega
   rw[e];split
   ·exact Iff.rfl
   ·exact h.pg.hp p
 have ga:GA (Ve (A,sp) g).1:=⟨pg,h.tb,h.lc,h.lt,h.cen,h.one,h.ow,h.ow41,h.owb,h.rpos,h.rdis,h.trn,h.trt,h.trb⟩;refine⟨⟨ga,⟨by rw[e3];show(setR _ _ _ _).length=A.n;rw[Qi];exact hw.l,λp hp=>?_,λp hp=>?_,λp=>?_⟩,rfl,rfl,rfl,λp h1 h2=>?_,λp h1 h2=>?_,λp h1 h2=>?_⟩,λp=>?_,rfl,rfl,rfl,rfl,λx hx=>?_,λp hp=>?_,?_⟩
 ·rw[ef]at hp;rw[eg];split at hp
  ·exact(hp rfl).elim
  ·rename_i hn;rw[zA hn];exact hw.own p hp
 ·rw[ef]at hp;rw[eg];split at hp
  ·cases hp
  ·rename_i hn;rw[zA hn];exact hw.cl p hp
 ·rw[eg];have:=hw.le p;split<;>omega
 ·rw[eg];by_cases hp:p/16=g
  ·have:=hi p hp;omega
  ·rw[zA hp]
 ·rw[ef]at h2;rw[eg];split at h2
  ·rename_i hp;rw[zB hp]
  ·exact(h1 h2).elim
 ·rw[ef]at h2;split at h2
  ·exact(h2 rfl).elim
  ·exact(h2 h1).elim
 ·rw[ef];simp
 ·rw[e3];exact Wk9 λhx2=>hx (by simp;omega)
 ·rw[eg,zA (by simpa using hp)]
 ·rw[e3];rfl
theorem Wfj:∀(l:List Nat) {A:AR} {sp:Sp},GA A->Ow A sp->l.Nodup->(∀g∈l,16*g+16<=A.n/\∀p,p/16=g->2<=A.f p)->Trm A (l.foldl Ve (A,sp)).1 sp (l.foldl Ve (A,sp)).2 l
 | [],A,sp,h,hw,_,_=>⟨St.refl h hw,λp=>by simp,rfl,rfl,rfl,rfl,λ_ _=>rfl,λ_ _=>rfl,rfl⟩
 | g::l,A,sp,h,hw,hn,hi=>by
  have hn':=zq.1 hn;have t:=WjC h hw (hi g (by simp)).1 (hi g (by simp)).2;have k:=Wfj l (A:=(Ve (A,sp) g).1) (sp:=(Ve (A,sp) g).2) t.st.ga t.st.ow hn'.2 λg' hg'=>by
   refine⟨by rw[t.st.n];exact(hi g' (by simp[hg'])).1,λp hp=>?_⟩;rw[t.f,zA (by simp;rintro rfl;exact hn'.1 (hp▸hg'))];exact(hi g' (by simp[hg'])).2 p hp
  rw[zAB];refine⟨t.st.trans k.st,λp=>?_,k.ow.trans t.ow,k.tra.trans t.tra,k.cen.trans t.cen,k.runs.trans t.runs,λx hx=>?_,λp hp=>?_,k.pk.trans t.pk⟩
  ·rw[k.f,t.f];by_cases h1:p/16∈l
   ·rw[zB h1,zB (by simp[h1])]
   ·rw[zA h1];by_cases h2:p/16=g
    ·rw[zB (by simp[h2]),zB (by simp[h2])]
    ·rw[zA (by simp[h2]),zA (by simp[h1,h2])]
  ·simp only[zR,not_or]at hx;exact(k.wd x hx.2).trans (t.wd x (by simpa using hx.1))
  ·simp only[zR,not_or]at hp;exact(k.gf p hp.2).trans (t.gf p (by simpa using hp.1))
theorem Wc6 (h:GA A){g:Nat}:g∈Kc A.st 0↔16*g+16<=A.n/\∀p,p/16=g->2<=A.f p:=by
 have hn:=h.pg.n16;unfold Kc;rw[zG,zb,h.pg.len];have hk:∀(hg:16*g+16<=A.n),(KG A.st g==0)=true↔∀p,p/16=g->A.f p≠1:=λhg=>by
  have h2:=Hk (st:=A.st) (a:=16*g) (b:=16*g+16) (v:=1) (by omega) (by rw[h.pg.len];exact hg);have e:(KG A.st g==0)=true↔cntR A.st (16*g) (16*g+16) 1=0:=by
   unfold KG;split
   ·rename_i hx;simp[hx]
   ·rename_i hx;constructor
    ·intro hy;split at hy<;>simp at hy
    ·intro hy;exact(hx hy).elim
  rw[e,h2];constructor
  ·intro hx p hp;exact hx p (by omega) (by omega)
  ·intro hx p p1 p2;exact hx p (by omega)
 simp only[zF,bne_iff_ne,ne_eq];constructor
 ·rintro⟨h1,h2,h3⟩;have hg:16*g+16<=A.n:=by omega
  refine⟨hg,λp hp=>?_⟩;have h4:=(hk hg).1 h3 p hp;have h5:A.f p≠0:=λe=>h2 ((h.pg.hp2 (q:=16*g) (by omega)).1 e);omega
 ·rintro⟨hg,h2⟩;refine⟨by omega,λe=>?_,(hk hg).2 λp hp e=>?_⟩
  ·have e:A.f (16*g)=0:=e;have:=h2 (16*g) (by omega);omega
  ·have:=h2 p hp;omega
theorem WdV (st:List Nat)(k:Nat):(Kc st k).Nodup:=List.nodup_range.filter _
theorem WjX (h:GA A)(hw:Ow A sp):Trm A (trimS A sp).1 sp (trimS A sp).2 (Kc A.st 0):=Wfj _ h hw (WdV _ _) λg hg=>(Wc6 h).1 hg
structure Rlz (A B:AR) (sp sp':Sp) (rs:List (Nat×Nat)):Prop where
 st:St A B sp sp'
 i:∀p,inR rs p->A.f p=2/\B.f p=3/\gf sp'.st p=1
 o:∀p,¬inR rs p->B.f p=A.f p/\gf sp'.st p=gf sp.st p
 ow:B.ow=A.ow
 tra:B.tra=A.tra
 cen:B.cen=A.cen
 runs:B.runs=A.runs
 wd:∀x,¬inR rs (x/32)->sp'.wd x=sp.wd x
 pk:sp'.pk=sp.pk
theorem Wl2 (h:GA A)(hw:Ow A sp){a m:Nat}(h1:1<=m)(hi:∀p,a<=p->p<a+m->A.f p=2):Rlz A (rel1 (A,sp) (a,m)).1 sp (rel1 (A,sp) (a,m)).2 [(a,m)]:=by
 have hl:a+m<=A.n:=by have:=h.pg.lt (p:=a+m-1) (by rw[hi _ (by omega) (by omega)];omega);omega
 have hin:∀p,inR [(a,m)] p↔a<=p/\p<a+m:=λp=>by simp[inR]
 have e1:(rel1 (A,sp) (a,m)).1.st=setR A.st a (a+m) 3:=WbS h1 (by rw[h.pg.len];exact hl) λp p1 p2=>by
  have:=hi p p1 p2;unfold AR.f at this;rw[this];simp
 have hl2:a+m<=sp.st.length:=by rw[hw.l];exact hl
 have e3:(rel1 (A,sp) (a,m)).2=sp.set a m 1:=Wcw h1 hl2 λp p1 p2=>hw.own p (by rw[hi p p1 p2];omega);have ef:∀p,(rel1 (A,sp) (a,m)).1.f p=if a<=p/\p<a+m then 3 else A.f p:=λp=>by unfold AR.f;rw[e1,He (by rw[h.pg.len];exact hl)]
 have eg:∀p,gf (rel1 (A,sp) (a,m)).2.st p=if a<=p/\p<a+m then 1 else gf sp.st p:=λp=>by rw[e3,Wlg hl2]
 have hz:∀p,(rel1 (A,sp) (a,m)).1.f p=0↔A.f p=0:=λp=>by
  rw[ef];split
  ·rename_i hp;rw[hi p hp.1 hp.2];omega
  ·exact Iff.rfl
 have pg:PG (rel1 (A,sp) (a,m)).1:=by
  refine⟨by rw[e1,Qi];exact h.pg.len,h.pg.n1,h.pg.n2,h.pg.n16,λp=>?_,λp=>?_,λp=>?_,WlK h.pg hz⟩
  ·rw[ef];have:=h.pg.le p;split<;>omega
  ·rw[ef];show _↔A.ow p≠0;rw[←h.pg.us p];split
   ·rename_i hp;rw[hi p hp.1 hp.2];omega
   ·exact Iff.rfl
  ·rw[ef];show A.S p=true↔_;rw[h.pg.fr p];split
   ·rename_i hp;rw[hi p hp.1 hp.2];omega
   ·exact Iff.rfl
 have ga:GA (rel1 (A,sp) (a,m)).1:=⟨pg,h.tb,h.lc,h.lt,h.cen,h.one,h.ow,h.ow41,h.owb,h.rpos,h.rdis,h.trn,h.trt,h.trb⟩;refine⟨⟨ga,⟨by rw[e3];show(setR _ _ _ _).length=A.n;rw[Qi];exact hw.l,λp hp=>?_,λp hp=>?_,λp=>?_⟩,rfl,rfl,rfl,λp h1 h2=>?_,λp h1 h2=>(h1 ((hz p).1 h2)).elim,λp h1 h2=>(h2 ((hz p).2 h1)).elim⟩,λp hp=>?_,λp hp=>?_,rfl,rfl,rfl,rfl,λx hx=>?_,?_⟩
 ·rw[eg];split
  ·omega
  ·rename_i hn;exact hw.own p λe=>hp ((hz p).2 e)
 ·rw[ef]at hp;rw[eg];split at hp
  ·rename_i hn;rw[zB hn]
  ·rename_i hn;rw[zA hn];exact hw.cl p hp
 ·rw[eg];have:=hw.le p;split<;>omega
 ·rw[eg,zA λhp=>by have:=hi p hp.1 hp.2;omega]
 ·rw[hin]at hp;rw[ef,eg,zB hp,zB hp];exact⟨hi p hp.1 hp.2,rfl,rfl⟩
 ·rw[hin]at hp;rw[ef,eg,zA hp,zA hp];exact⟨rfl,rfl⟩
 ·rw[hin]at hx;rw[e3];exact Wk9 hx
 ·rw[e3];rfl
theorem WiC:∀(rs:List (Nat×Nat)) {A:AR} {sp:Sp},GA A->Ow A sp->(∀r∈rs,1<=r.2/\∀p,r.1<=p->p<r.1+r.2->A.f p=2)->rs.Pairwise (λa b=>a.1+a.2<=b.1\/b.1+b.2<=a.1) →
 Rlz A (rs.foldl rel1 (A,sp)).1 sp (rs.foldl rel1 (A,sp)).2 rs
 | [],A,sp,h,hw,_,_=>⟨St.refl h hw,λp ⟨r,hr,_⟩=>by simp at hr,λp _=>⟨rfl,rfl⟩,rfl,rfl,rfl,rfl,λ_ _=>rfl,rfl⟩
 | (a,m)::rs,A,sp,h,hw,hi,hd=>by
  have hd':=zAY.1 hd;have hi0:=hi (a,m) (zBA ..);have t:=Wl2 h hw hi0.1 hi0.2;have hin:∀p,inR [(a,m)] p↔a<=p/\p<a+m:=λp=>by simp[inR]
  have hcons:∀p,inR ((a,m)::rs) p↔(a<=p/\p<a+m)\/inR rs p:=λp=>by simp[inR]
  have k:=WiC rs (A:=(rel1 (A,sp) (a,m)).1) (sp:=(rel1 (A,sp) (a,m)).2) t.st.ga t.st.ow (λr hr=>by
   have:=hi r (zAS _ hr);refine⟨this.1,λp p1 p2=>?_⟩;have hx:=hd'.1 r hr;simp only at hx;rw[(t.o p (by rw[hin];omega)).1];exact this.2 p p1 p2) hd'.2
  rw[zAB];refine⟨t.st.trans k.st,λp hp=>?_,λp hp=>?_,k.ow.trans t.ow,k.tra.trans t.tra,k.cen.trans t.cen,k.runs.trans t.runs,λx hx=>?_,k.pk.trans t.pk⟩
  ·by_cases h2:inR rs p
   ·have:=k.i p h2;refine⟨?_,this.2⟩;by_cases h3:a<=p/\p<a+m
    ·exact hi0.2 p h3.1 h3.2
    ·rw[←(t.o p (by rw[hin];exact h3)).1];exact this.1
   ·have h3:a<=p/\p<a+m:=((hcons p).1 hp).resolve_right h2;have h4:=t.i p ((hin p).2 h3);have h5:=k.o p h2;exact⟨h4.1,h5.1.trans h4.2.1,h5.2.trans h4.2.2⟩
  ·rw[hcons]at hp;have h2:¬inR rs p:=λh=>hp (.inr h);have h3:¬inR [(a,m)] p:=λh=>hp (.inl ((hin p).1 h));exact⟨(k.o p h2).1.trans (t.o p h3).1,(k.o p h2).2.trans (t.o p h3).2⟩
  ·rw[hcons]at hx;exact(k.wd x λh=>hx (.inr h)).trans (t.wd x λh=>hx (.inl ((hin _).1 h)))
theorem WgD {st:List Nat}{p m:Nat}(hl:p+m<=st.length):runL st p m<=m/\(∀x,p<=x->x<p+runL st p m->gf st x=2)/\(runL st p m<m->gf st (p+runL st p m)≠2):=by
 have key:∀(l:List Nat),(l.takeWhile (· == 2)).length<=l.length/\(∀i,i<(l.takeWhile (· == 2)).length->l[i]?=some 2)/\((l.takeWhile (· == 2)).length<l.length->l[(l.takeWhile (· == 2)).length]?≠some 2):=by
  intro l
  induction l with
  | nil=>simp
  | cons x l ih=>
   rw[zEJ];by_cases hx:x=2
   ·subst hx;simp only[beq_self_eq_true,zO,zV];refine⟨by omega,λi hi=>?_,λhlt=>?_⟩
    ·cases i with
     | zero=>rfl
     | succ i=>simpa using ih.2.1 i (by omega)
    ·simpa using ih.2.2 (by omega)
   ·have:(x==2)=false:=by simpa using hx
    simp[this,hx]
 have k:=key ((st.drop p).take m);have hlen:((st.drop p).take m).length=m:=by simp;omega
 have get:∀i,i<m->((st.drop p).take m)[i]?=some (gf st (p+i)):=λi hi=>by
  rw[zX,zB hi,zj];unfold gf;rw[zL,gGe (by omega)];rfl
 rw[hlen]at k;refine⟨k.1,λx h1 h2=>?_,λhlt=>?_⟩
 ·have h3:=k.2.1 (x-p) (by unfold runL at h2;omega);have hle:runL st p m<=m:=k.1;rw[get _ (by omega),show p+(x-p)=x by omega]at h3;exact Option.some.inj h3
 ·have h3:=k.2.2 hlt;have e:(((st.drop p).take m).takeWhile (· == 2)).length=runL st p m:=rfl;rw[e,get _ hlt]at h3;exact λe=>h3 (congrArg some e)
theorem Vy {st:List Nat}{e:Nat}(he:e<=st.length):∀(f p:Nat),(∀r∈QV st e f p,1<=r.2/\p<=r.1/\r.1+r.2<=e/\∀x,r.1<=x->x<r.1+r.2->gf st x=2)/\(QV st e f p).Pairwise (λa b=>a.1+a.2<=b.1) ∧
 (e-p<f->∀x,p<=x->x<e->gf st x=2->inR (QV st e f p) x)/\((QV st e f p).map (·.2)).sum<=e-p
 | 0,p=>⟨by simp[QV],by simp[QV],λh=>by omega,by simp[QV]⟩
 | f+1,p=>by
  rw[QV];split
  ·rename_i hp;exact⟨by simp,by simp,λ_ x h1 h2=>by omega,by simp⟩
  ·rename_i hp;have hr:=WgD (st:=st) (p:=p) (m:=e-p) (by omega);split
   ·rename_i h0;obtain⟨i1,i2,i3,i4⟩:=Vy he f (p+1);refine⟨λr hr'=>?_,i2,λhf x h1 h2 h3=>?_,by omega⟩
    ·have:=i1 r hr';exact⟨this.1,by omega,this.2.2⟩
    ·by_cases hx:x=p
     ·subst hx;rw[h0]at hr;exact(hr.2.2 (by omega) (by simpa using h3)).elim
     ·exact i3 (by omega) x (by omega) h2 h3
   ·rename_i h0;obtain⟨i1,i2,i3,i4⟩:=Vy he f (p+runL st p (e-p)+1);refine⟨λr hr'=>?_,zAY.2 ⟨λr hr'=>?_,i2⟩,λhf x h1 h2 h3=>?_,?_⟩
    ·rcases zR.1 hr' with rfl|hr'
     ·exact⟨by simp only;omega,zC _,by simp only;omega,hr.2.1⟩
     ·have:=i1 r hr';exact⟨this.1,by omega,this.2.2⟩
    ·have:=i1 r hr';simp only;omega
    ·by_cases hx:x<p+runL st p (e-p)
     ·exact⟨_,zBA ..,h1,hx⟩
     ·by_cases hx2:x=p+runL st p (e-p)
      ·subst hx2;exact(hr.2.2 (by omega) h3).elim
      ·obtain⟨r,hr',h4⟩:=i3 (by omega) x (by omega) h2 h3;exact⟨r,zAS _ hr',h4⟩
    ·simp only[zW,zAU];omega
theorem WiN (st:List Nat)(l:List Nat)(h:Nat):(insH st l h).Perm (h::l):=by
 unfold insH;refine List.perm_middle.trans ?_;rw[zGH]
theorem Wcz (st:List Nat):(ordT st).Perm ((List.range (st.length/16)).filter λh=>0<cntR st (16*h) (16*h+16) 2):=by
 unfold ordT;have key:∀(l m:List Nat),(l.foldl (insH st) m).Perm (l++m):=by
  intro l
  induction l with
  | nil=>intro m;exact List.Perm.refl _
  | cons x l ih=>
   intro m;rw[zAB,zAF];refine(ih _).trans ?_;refine((WiN st m x).append_left l).trans ?_;exact List.perm_middle
 simpa using key _ []
theorem Wcn (want:Int):∀(x:Nat) (l:List (Nat×Nat)),(cutW want x l).Sublist l
 | x,[]=>by simp[cutW]
 | x,r::l=>by
  rw[cutW];split
  ·exact List.nil_sublist _
  ·exact(Wcn want (x+r.2) l).cons_cons r
theorem WcA {want:Int}:∀(x:Nat) (l:List (Nat×Nat)),(∀r∈l,1<=r.2)->((x+(l.map (·.2)).sum:Nat):Int)<=want->cutW want x l=l
 | x,[],_,_=>by simp[cutW]
 | x,r::l,hp,hs=>by
  have:=hp r (by simp);simp only[zW,zAU]at hs;rw[cutW,zA (by omega),WcA (x+r.2) l (λq hq=>hp q (by simp[hq])) (by omega)]
theorem WkU {st:List Nat}(h16:st.length%16=0):(∀r∈(ordT st).flatMap (KJ st),1<=r.2/\∀x,r.1<=x->x<r.1+r.2->gf st x=2)/\((ordT st).flatMap (KJ st)).Pairwise (λa b=>a.1+a.2<=b.1\/b.1+b.2<=a.1) ∧
 (∀x,gf st x=2->inR ((ordT st).flatMap (KJ st)) x)/\(((ordT st).flatMap (KJ st)).map (·.2)).sum<=st.length:=by
 have hp:=Wcz st;have hlt:∀h∈ordT st,16*h+16<=st.length:=λh hh=>by
  have:=(zG.1 (hp.subset hh)).1;rw[zb]at this;omega
 have hnd:(ordT st).Nodup:=hp.nodup_iff.2 (List.nodup_range.filter _);have hlen:(ordT st).length<=st.length/16:=by
  rw[hp.length_eq];exact zN (zAZ _ _) (by simp)
 refine⟨λr hr=>?_,?_,λx hx=>?_,?_⟩
 ·obtain⟨h,hh,hr⟩:=zDB.1 hr;have:=(Vy (hlt h hh) 17 (16*h)).1 r hr;exact⟨this.1,this.2.2.2⟩
 ·have key:∀l:List Nat,l.Nodup->(∀h∈l,16*h+16<=st.length)->(l.flatMap (KJ st)).Pairwise (λa b=>a.1+a.2<=b.1\/b.1+b.2<=a.1):=by
   intro l
   induction l with
   | nil=>intro _ _;simp
   | cons h l ih=>
    intro hn hl;have hn:=zq.1 hn;rw[zBR];refine zBO.2 ⟨(Vy (hl h (by simp)) 17 (16*h)).2.1.imp λ{a b} hab=>.inl hab,ih hn.2 λg hg=>hl g (by simp[hg]),λa ha b hb=>?_⟩;obtain⟨g,hg,hb⟩:=zDB.1 hb;have h1:=(Vy (hl h (by simp)) 17 (16*h)).1 a ha;have h2:=(Vy (hl g (by simp[hg])) 17 (16*g)).1 b hb;have hne:h≠g:=λe=>hn.1 (e▸hg);omega
  exact key _ hnd hlt
 ·have hxl:x<st.length:=Wne (by omega);have hm:x/16∈ordT st:=hp.symm.subset (zG.2 ⟨zb.2 (by omega),by
   have:cntR st (16*(x/16)) (16*(x/16)+16) 2≠0:=λh0=>by
    rw[Hk (by omega) (by omega)]at h0;exact h0 x (by omega) (by omega) hx
   simp;omega⟩)
  obtain⟨r,hr,h1⟩:=(Vy (hlt _ hm) 17 (16*(x/16))).2.2.1 (by omega) x (by omega) (by omega) hx;exact⟨r,zDB.2 ⟨_,hm,hr⟩,h1⟩
 ·have key:∀l:List Nat,(∀h∈l,16*h+16<=st.length)->((l.flatMap (KJ st)).map (·.2)).sum<=16*l.length:=by
   intro l
   induction l with
   | nil=>intro _;simp
   | cons h l ih=>
    intro hl;have h1:=(Vy (hl h (by simp)) 17 (16*h)).2.2.2;have h2:=ih λg hg=>hl g (by simp[hg]);rw[zBR,zAQ,zFK,zV];have h1:((KJ st h).map (·.2)).sum<=16*h+16-16*h:=h1;omega
  have:=key _ hlt;omega
theorem Whb (h:GA A)(hw:Ow A sp){want:Int}(h0:0<=want):Rlz (YB A) (relS A sp want).1 sp (relS A sp want).2 (VS A want)/\(1024<=want->∀p,(relS A sp want).1.f p≠2):=by
 obtain⟨o,_,_⟩:=Ui h;have hl16:(YB A).st.length%16=0:=by rw[o.ga.pg.len];exact o.ga.pg.n16
 obtain⟨r1,r2,r3,r4⟩:=WkU hl16;have hsub:=Wcn want 0 ((ordT (YB A).st).flatMap (KJ (YB A).st));have e:relS A sp want=(VS A want).foldl rel1 (YB A,sp):=by unfold relS;rw[zA (by omega)]
 rw[e];have t:=WiC (VS A want) o.ga (hw.kp o.kp) (λr hr=>r1 r (hsub.subset hr)) (r2.sublist hsub);refine⟨t,λhbig p hp=>?_⟩;have hn:=o.ga.pg.n2;have hfull:VS A want=(ordT (YB A).st).flatMap (KJ (YB A).st):=WcA 0 _ (λr hr=>(r1 r hr).1) (by
  rw[o.ga.pg.len]at r4;omega)
 by_cases hi:inR (VS A want) p
 ·rw[(t.i p hi).2.1]at hp;omega
 ·rw[(t.o p hi).1]at hp;exact hi (by rw[hfull];exact r3 p hp)
theorem Wlr (h:GA A)(hw:Ow A sp)(want:Int):St A (relS A sp want).1 sp (relS A sp want).2/\(relS A sp want).1.runs=A.runs/\(relS A sp want).1.tra=A.tra/\∀j y,TkA (relS A sp want).1 j y↔TkA A j y:=by
 by_cases h0:0<=want
 ·obtain⟨t,_⟩:=Whb h hw h0;obtain⟨o,e,k⟩:=Ui h;refine⟨(o.st hw).trans t.st,t.runs.trans o.runs,t.tra.trans e,λj y=>?_⟩;rw[←k];unfold TkA Cl;rw[t.cen,t.st.tb]
 ·have e:relS A sp want=(A,sp):=by unfold relS;rw[zB (by omega)]
  rw[e];exact⟨St.refl h hw,rfl,rfl,λ_ _=>Iff.rfl⟩
end Go.Ar
namespace Go.Ar
structure Pc where
 k:Nat
 cls:Int
 addr:Nat
 size:Nat
 moved:Bool
 deriving DecidableEq
structure Wd where
 tb:List Cls
 sp:Sp
 ars:List AR
 held:List Pc
structure Act where
 kd:Int
 ar:Int
 cl:Int
 a:Int
 b:Int
 l:List Int
abbrev Key:=Nat×Int×Nat
def Pc.key (p:Pc):Key:=(p.k,p.cls,p.addr)
def isAt (k:Nat)(cls x:Int)(p:Pc):Bool:=p.k==k&&(p.cls==cls&&((p.addr:Int)==x && !p.moved))
def atW (held:List Pc)(k:Nat)(cls x:Int):Option Nat:=held.findIdx? (isAt k cls x)
def ownW (held:List Pc)(k:Nat)(cls:Int)(l:List Int):Bool:=l.all (λx=>(atW held k cls x).isSome)&&decide l.Nodup
def drop1 (k:Nat)(cls:Int)(held:List Pc)(x:Int):List Pc:=match atW held k cls x with
 | some i=>held.take i++held.drop (i+1)
 | none=>held
def Whi (held:List Pc)(k:Nat)(cls:Int)(l:List Int):List Pc:=l.foldl (drop1 k cls) held
def isOf (k:Nat)(cls:Int)(l:List Int)(p:Pc):Bool:=p.k==k&&(p.cls==cls&&l.contains (p.addr:Int))
def Hx (held:List Pc)(k:Nat)(cls:Int)(l:List Int)(m:Bool):List Pc:=held.map λp=>if isOf k cls l p then{p with moved:=m}else p
def Wf8 (us:List AR)(held:List Pc):List Pc:=held.filter λp=>!p.moved||(match us[p.k]? with
 | some A=>WhX A (p.addr:Int)
 | none=>false)
def szOf (tb:List Cls)(k:Int):Nat:=((tb[k.toNat]?).map (·.size)).getD 0
def Wd.put (W:Wd)(k:Nat)(A:AR)(sp:Sp)(held:List Pc):Wd:={W with sp:=sp,ars:=W.ars.set k A,held:=held}
def Hd (A:AR)(p:Pc):Prop:=(p.cls = -1/\p.moved=false/\∃r∈A.runs,p.addr=r.1*256/\p.size=r.2*256) ∨
 ∃(j:Nat) (c:Cls),p.cls=j/\A.tb[j]?=some c/\p.size=c.size/\TkA A j (p.addr:Int)/\(p.moved=true↔InT A j (p.addr:Int))
structure WI (W:Wd):Prop where
 ga:∀(k:Nat) (A:AR),W.ars[k]?=some A->GA A
 ow:∀(k:Nat) (A:AR),W.ars[k]?=some A->Ow A W.sp
 tb:∀(k:Nat) (A:AR),W.ars[k]?=some A->A.tb=W.tb
 low:∀(k:Nat) (A:AR),W.ars[k]?=some A->∀p,p<16->A.f p=0
 own:∀p,gf W.sp.st p≠0->∃(k:Nat) (A:AR),W.ars[k]?=some A/\A.f p≠0
 one:∀p (k l:Nat) (A B:AR),W.ars[k]?=some A->W.ars[l]?=some B->A.f p≠0->B.f p≠0->k=l
 hk:(W.held.map Pc.key).Nodup
 hf:∀p∈W.held,∃A,W.ars[p.k]?=some A/\Hd A p
 ht:∀(k:Nat) (A:AR),W.ars[k]?=some A->∀(j:Nat) (y:Int),TkA A j y->∃p∈W.held,p.k=k/\p.cls=j/\(p.addr:Int)=y
 hr:∀(k:Nat) (A:AR),W.ars[k]?=some A->∀r∈A.runs,∃p∈W.held,p.k=k/\p.cls = -1/\p.addr=r.1*256
variable {W:Wd}{k:Nat}{A:AR}
theorem KW {α:Type}{l:List α}{k j:Nat}{x y:α}(h:(l.set k x)[j]?=some y):(j=k/\y=x/\k<l.length)\/(j≠k/\l[j]?=some y):=by
 by_cases hjk:j=k
 ·subst hjk;have hl:j<l.length:=by have:=(gSi.1 h).1;simpa using this
  rw[zK hl]at h;exact .inl ⟨rfl,(Option.some.inj h).symm,hl⟩
 ·rw[zd (Ne.symm hjk)]at h;exact .inr ⟨hjk,h⟩
theorem WI.unique (h:WI W){p q:Pc}(hp:p∈W.held)(hq:q∈W.held)(e:p.key=q.key):p=q:=by
 obtain⟨i,hi⟩:=zM hp;obtain⟨j,hj⟩:=zM hq;obtain⟨hi1,rfl⟩:=gSi.1 hi;obtain⟨hj1,rfl⟩:=gSi.1 hj;have:=zAI.1 h.hk;rcases zBT i j with hl|hl|hl
 ·exact(this i j (by simpa using hi1) (by simpa using hj1) hl (by simpa using e)).elim
 ·subst hl;rfl
 ·exact(this j i (by simpa using hj1) (by simpa using hi1) hl (by simpa using e.symm)).elim
theorem WI.step (h:WI W)(hk:W.ars[k]?=some A){B:AR}{sp':Sp}{held':List Pc}(s:St A B W.sp sp')(h1:(held'.map Pc.key).Nodup)(h2:∀p∈held',p.k=k->Hd B p)(h3:∀p,p.k≠k->(p∈held'↔p∈W.held))
 (h4:∀(j:Nat) (y:Int),TkA B j y->∃p∈held',p.k=k/\p.cls=j/\(p.addr:Int)=y) (h5:∀r∈B.runs,∃p∈held',p.k=k/\p.cls = -1/\p.addr=r.1*256):WI (W.put k B sp' held'):=by
 have hkl:=(gSi.1 hk).1;have self:(W.ars.set k B)[k]?=some B:=zK hkl;have ne:∀{j:Nat} {C:AR},j≠k->W.ars[j]?=some C->(W.ars.set k B)[j]?=some C:=λhj hC=>(zd (Ne.symm hj)).trans hC;have oth:∀{j:Nat} {C:AR},j≠k->W.ars[j]?=some C->∀p,C.f p≠0->A.f p=0/\B.f p=0/\gf sp'.st p=gf W.sp.st p:=by
  intro j C hj hC p hp;have hA:A.f p=0:=Classical.byContradiction λhn=>hj (h.one p j k C A hC hk hp hn);have hB:B.f p=0:=Classical.byContradiction λhn=>by
   have:=(s.new p hA hn).1;exact(h.ow j C hC).own p hp this
  exact⟨hA,hB,s.same p hA hB⟩
 refine⟨λj C hj=>?_,λj C hj=>?_,λj C hj=>?_,λj C hj p hp=>?_,λp hp=>?_,λp j l C D hj hl hC hD=>?_,h1,λp hp=>?_,λj C hj i y hy=>?_,λj C hj r hr=>?_⟩
 ·rcases KW hj with⟨rfl,rfl,_⟩|⟨_,hj⟩
  ·exact s.ga
  ·exact h.ga j C hj
 ·rcases KW hj with⟨rfl,rfl,_⟩|⟨hne,hj⟩
  ·exact s.ow
  ·have o:=h.ow j C hj;have oA:=h.ow k A hk;refine⟨?_,λp hp=>?_,λp hp=>?_,s.ow.le⟩
   ·show sp'.st.length=C.n;rw[s.ow.l,s.n,←oA.l,o.l]
   ·show gf sp'.st p≠0;rw[(oth hne hj p hp).2.2];exact o.own p hp
   ·show gf sp'.st p=1;rw[(oth hne hj p (by omega)).2.2];exact o.cl p hp
 ·rcases KW hj with⟨rfl,rfl,_⟩|⟨_,hj⟩
  ·exact s.tb.trans (h.tb _ A hk)
  ·exact h.tb j C hj
 ·rcases KW hj with⟨rfl,rfl,_⟩|⟨_,hj⟩
  ·apply Classical.byContradiction;intro hn;have:=s.new p (h.low _ A hk p hp) hn;omega
  ·exact h.low j C hj p hp
 ·have hp:gf sp'.st p≠0:=hp;by_cases hB:B.f p=0
  ·by_cases hA:A.f p=0
   ·rw[s.same p hA hB]at hp;obtain⟨j,C,hj,hC⟩:=h.own p hp;have hne:j≠k:=by
     rintro rfl;rw[hk]at hj;cases hj;exact hC hA
    exact⟨j,C,ne hne hj,hC⟩
   ·exact(hp (s.gone p hA hB)).elim
  ·exact⟨k,B,self,hB⟩
 ·rcases KW hj with⟨rfl,rfl,_⟩|⟨hne,hj'⟩
  ·rcases KW hl with⟨rfl,rfl,_⟩|⟨hne2,hl'⟩
   ·rfl
   ·exact(hC (oth hne2 hl' p hD).2.1).elim
  ·rcases KW hl with⟨rfl,rfl,_⟩|⟨hne2,hl'⟩
   ·exact(hD (oth hne hj' p hC).2.1).elim
   ·exact h.one p j l C D hj' hl' hC hD
 ·by_cases hpk:p.k=k
  ·exact⟨B,by rw[hpk];exact self,h2 p hp hpk⟩
  ·obtain⟨C,hC,hh⟩:=h.hf p ((h3 p hpk).1 hp);exact⟨C,ne hpk hC,hh⟩
 ·rcases KW hj with⟨rfl,rfl,_⟩|⟨hne,hj⟩
  ·exact h4 i y hy
  ·obtain⟨p,hp,e1,e2,e3⟩:=h.ht j C hj i y hy;exact⟨p,(h3 p (by rw[e1];exact hne)).2 hp,e1,e2,e3⟩
 ·rcases KW hj with⟨rfl,rfl,_⟩|⟨hne,hj⟩
  ·exact h5 r hr
  ·obtain⟨p,hp,e1,e2,e3⟩:=h.hr j C hj r hr;exact⟨p,(h3 p (by rw[e1];exact hne)).2 hp,e1,e2,e3⟩
theorem Hd.to {B:AR}{p:Pc}(h:Hd A p)(e1:B.tb=A.tb)(e2:B.runs=A.runs)(e3:∀j y,TkA A j y->TkA B j y)(e4:∀j y,InT B j y↔InT A j y):Hd B p:=by
 rcases h with⟨h1,h2,r,hr,h3⟩|⟨j,c,h1,h2,h3,h4,h5⟩
 ·exact .inl ⟨h1,h2,r,by rw[e2];exact hr,h3⟩
 ·exact .inr ⟨j,c,h1,by rw[e1];exact h2,h3,e3 _ _ h4,by rw[e4];exact h5⟩
theorem WI.hd (h:WI W)(hk:W.ars[k]?=some A){p:Pc}(hp:p∈W.held)(e:p.k=k):Hd A p:=by
 obtain⟨C,hC,hh⟩:=h.hf p hp;rw[e,hk]at hC;cases hC;exact hh
theorem WI.stepSame (h:WI W)(hk:W.ars[k]?=some A){B:AR}{sp':Sp}(s:St A B W.sp sp')(e2:B.runs=A.runs)(e3:∀j y,TkA B j y↔TkA A j y)(e4:B.tra=A.tra):WI (W.put k B sp' W.held):=
 h.step hk s h.hk (λp hp e=>(h.hd hk hp e).to s.tb e2 (λj y=>(e3 j y).2) λj y=>by unfold InT;rw[e4]) (λ_ _=>Iff.rfl) (λj y hy=>h.ht k A hk j y ((e3 j y).1 hy)) λr hr=>h.hr k A hk r (by rw[←e2];exact hr)
theorem WI.cls (h:WI W){p:Pc}(hp:p∈W.held){j:Nat}(e:p.cls=j)(hk:W.ars[p.k]?=some A):∃c,A.tb[j]?=some c/\p.size=c.size/\TkA A j (p.addr:Int)/\(p.moved=true↔InT A j (p.addr:Int)):=by
 rcases h.hd hk hp rfl with⟨h1,_⟩|⟨i,c,h1,h2,h3,h4,h5⟩
 ·omega
 ·obtain rfl:i=j:=by omega
  exact⟨c,h2,h3,h4,h5⟩
theorem WI.run (h:WI W){p:Pc}(hp:p∈W.held)(e:p.cls = -1)(hk:W.ars[p.k]?=some A):p.moved=false/\∃r∈A.runs,p.addr=r.1*256/\p.size=r.2*256:=by
 rcases h.hd hk hp rfl with⟨_,h2⟩|⟨i,c,h1,_⟩
 ·exact h2
 ·omega
theorem KB {k:Nat}{cls x:Int}{p:Pc}:isAt k cls x p=true↔p.k=k/\p.cls=cls/\(p.addr:Int)=x/\p.moved=false:=by
 simp[isAt]
theorem Z2 {k:Nat}{cls:Int}{l:List Int}{p:Pc}:isOf k cls l p=true↔p.k=k/\p.cls=cls/\(p.addr:Int)∈l:=by
 simp[isOf]
theorem Wj5 {held:List Pc}{k:Nat}{cls x:Int}{i:Nat}(h:atW held k cls x=some i):∃p,held[i]?=some p/\isAt k cls x p=true:=by
 obtain⟨hi,hp,_⟩:=zBC.1 h;exact⟨held[i],gGe hi,hp⟩
theorem WnI {held:List Pc}{k:Nat}{cls x:Int}{p:Pc}(hp:p∈held)(h:isAt k cls x p=true):(atW held k cls x).isSome=true:=by
 unfold atW;rw[List.findIdx?_isSome,zz];exact⟨p,hp,h⟩
theorem KA {held:List Pc}{k:Nat}{cls:Int}{l:List Int}:ownW held k cls l=true↔(∀x∈l,∃p∈held,isAt k cls x p=true)/\l.Nodup:=by
 unfold ownW;rw[zF,zu,zP];refine and_congr_left λ_=>forall_congr' λx=>imp_congr_right λhx=>?_;unfold atW;rw[List.findIdx?_isSome,zz]
theorem Wdx {held:List Pc}(hn:(held.map Pc.key).Nodup){i:Nat}{p:Pc}(hi:held[i]?=some p):held.take i++held.drop (i+1)=held.filter λq=>!(q.key==p.key):=by
 induction held generalizing i with
 | nil=>simp at hi
 | cons q l ih=>
  rw[zW,zq]at hn;cases i with
  | zero=>
   simp only[zGG,Option.some.injEq]at hi;subst hi;have:l.filter (λr=>!(r.key==q.key))=l:=by
    rw[zCB];intro r hr;have:r.key≠q.key:=λe=>hn.1 (zE.2 ⟨r,hr,e⟩);simpa using this
   simp[this]
  | succ i=>
   have hi:l[i]?=some p:=by simpa using hi
   have hne:q.key≠p.key:=λe=>hn.1 (zE.2 ⟨p,zD hi,e.symm⟩);rw[zCR,zFE,zAF,ih hn.2 hi,zCJ];have:(!(q.key==p.key))=true:=by simpa using hne
   rw[this];rfl
theorem V0 {held:List Pc}(hn:(held.map Pc.key).Nodup)(f:Pc->Bool):((held.filter f).map Pc.key).Nodup:=hn.sublist (List.filter_sublist.map _)
theorem WeN {k:Nat}{cls:Int}:∀(l:List Int) {held:List Pc},(held.map Pc.key).Nodup->(∀x∈l,∃p∈held,isAt k cls x p=true)->l.Nodup->Whi held k cls l=held.filter λp=>!isOf k cls l p
 | [],held,_,_,_=>by
  have:∀p,isOf k cls [] p=false:=λp=>by simp[isOf]
  exact(zCB.2 λp _=>by rw[this];rfl).symm
 | x::l,held,hn,ho,hl=>by
  obtain⟨p,hp,hx⟩:=ho x (by simp);obtain⟨i,hi⟩:=zBU.1 (WnI hp hx);obtain⟨q,hq,hqx⟩:=Wj5 hi;have hl':=zq.1 hl;have e1:drop1 k cls held x=held.filter λr=>!(r.key==q.key):=by unfold drop1;rw[hi];exact Wdx hn hq
  obtain⟨q1,q2,q3,q4⟩:=KB.1 hqx;have ih:=WeN l (held:=held.filter λr=>!(r.key==q.key)) (V0 hn _) (λy hy=>by
   obtain⟨r,hr,hry⟩:=ho y (by simp[hy]);refine⟨r,zG.2 ⟨hr,?_⟩,hry⟩;have:r.key≠q.key:=λe=>by
    have e3:r.addr=q.addr:=congrArg (λz:Key=>z.2.2) e;have:=(KB.1 hry).2.2.1;have:y=x:=by omega
    subst this;exact hl'.1 hy
   simpa using this) hl'.2
  unfold Whi at ih ⊢;rw[zAB,e1,ih,zFS];apply zEU;intro r hr;have e:(r.key==q.key)=(r.k==k&&(r.cls==cls&&(r.addr:Int)==x)):=by
   rw[zBF];simp only[Pc.key,zY,zF,Prod.mk.injEq];constructor
   ·rintro⟨a,b,c⟩;exact⟨by omega,by omega,by omega⟩
   ·rintro⟨a,b,c⟩;exact⟨by omega,by omega,by omega⟩
  rw[e];unfold isOf;rw[List.contains_cons];cases r.k==k<;>cases r.cls==cls<;>cases((r.addr:Int)==x)<;>cases l.contains (r.addr:Int)<;>rfl
theorem QJ {held:List Pc}{k:Nat}{cls:Int}{l:List Int}{m:Bool}{p:Pc}:p∈Hx held k cls l m↔∃q∈held,p=if isOf k cls l q then{q with moved:=m}else q:=by
 unfold Hx;rw[zE];constructor
 ·rintro⟨q,hq,rfl⟩;exact⟨q,hq,rfl⟩
 ·rintro⟨q,hq,rfl⟩;exact⟨q,hq,rfl⟩
theorem Wgv {held:List Pc}{k:Nat}{cls:Int}{l:List Int}{m:Bool}:(Hx held k cls l m).map Pc.key=held.map Pc.key:=by
 unfold Hx;rw[zAP];apply zy;intro p _;simp only[Function.comp];split<;>rfl
theorem GL (hk:W.ars[k]?=some A)(h:WI W):WI (W.put k A W.sp W.held):=h.stepSame hk (St.refl (h.ga k A hk) (h.ow k A hk)) rfl (λ_ _=>Iff.rfl) rfl
theorem Whw (h:GA A){j:Nat}{c:Cls}{ss:List SpA}(hc:Cl A j c ss){l:Nat}{s:SpA}{i:Nat}(hs:ss[l]?=some s)(hi:i<c.n){x:Nat}(h1:at_ c s i<=x)(h2:x<at_ c s i+c.size):UN A (x:Int)=some ((j:Int),at_ c s i):=by
 have hC:=h.cen j c ss hc;have hp:=HO hC.pos hi h1 h2;have hu:=h.used hc (zD hs) hp.1 hp.2;have hlt:=h.pg.lt (p:=x/256) (by rw[hu.1];omega);have hn:=h.pg.n2;have hjl:=hc.lt;have htb:=h.tb;unfold UN;rw[zA (by omega),iTn];simp only;rw[zB (show x/256<1024 by omega),hu.2,zA (by omega),zA (by omega),zFJ,hc.1,hc.2];simp only;rw[(WcO hC).2 ⟨l,s,i,hs,hi,rfl,by omega,by omega⟩];rfl
theorem WcN (h:GA A){r:Nat×Nat}(hr:r∈A.runs){x:Nat}(h1:r.1*256<=x)(h2:x<(r.1+r.2)*256):UN A (x:Int)=some (-1,r.1*256):=by
 have hu:=h.usedR hr (p:=x/256) (by omega) (by omega);have hlt:=h.pg.lt (p:=x/256) (by rw[hu.1];omega);have hn:=h.pg.n2;unfold UN;rw[zA (by omega),iTn];simp only;rw[zB (show x/256<1024 by omega),hu.2,zA (by omega),zB rfl,WbM h.runsOk hr (by omega) (by omega)];rfl
theorem WfB (h:GA A){x:Int}{k:Int}{a:Nat}(hf:UN A x=some (k,a)):(k = -1/\∃r∈A.runs,a=r.1*256/\((r.1*256:Nat):Int)<=x/\x<(((r.1+r.2)*256:Nat):Int)) ∨
 ∃(j:Nat) (c:Cls) (ss:List SpA) (l:Nat) (s:SpA) (i:Nat),k=j/\Cl A j c ss/\ss[l]?=some s/\i<c.n/\a=at_ c s i/\((at_ c s i:Nat):Int)<=x/\x<((at_ c s i+c.size:Nat):Int):=by
 unfold UN at hf;split at hf
 ·cases hf
 ·rename_i hx;obtain⟨y,rfl⟩:=ze (show 0<=x by omega);rw[iTn]at hf;simp only at hf;by_cases hlt:y/256<1024
  ·rw[zB hlt]at hf;split at hf
   ·cases hf
   ·split at hf
    ·rename_i h0 h41;obtain⟨r,hr,he⟩:=zBV.1 hf;have hm:=zCZ hr;have hp:=zCY hr;simp at hp;cases he;exact .inl ⟨rfl,r,hm,rfl,by omega,by omega⟩
    ·rename_i h0 h41;split at hf
     ·rename_i c ss h1 h2;obtain⟨a',ha,he⟩:=zBV.1 hf;cases he;have hc:Cl A (A.ow (y/256)-1) c ss:=⟨h1,h2⟩;obtain⟨l,s,i,hs,hi,rfl,h3,h4⟩:=(WcO (h.cen _ _ _ hc)).1 ha;exact .inr ⟨_,c,ss,l,s,i,rfl,hc,hs,hi,rfl,h3,h4⟩
     ·cases hf
  ·rw[zA hlt,zB rfl]at hf;cases hf
theorem TkA.find (h:GA A){j:Nat}{x:Int}(hx:TkA A j x):∃y:Nat,x=y/\UN A x=some ((j:Int),y):=by
 obtain⟨c,ss,hc,ht⟩:=hx;have hC:=h.cen j c ss hc;obtain⟨l,s,i,hs,hi,rfl,hb⟩:=(V7 hC).1 ht;exact⟨_,rfl,Whw h hc hs hi (zC _) (by have:=hC.pos;omega)⟩
theorem WaD (h:GA A){x:Int}:WhX A x=true↔(∃j,TkA A j x)\/∃r∈A.runs,x=((r.1*256:Nat):Int):=by
 constructor
 ·intro hx;unfold WhX at hx;split at hx
  ·rename_i k a hf;split at hx
   ·rename_i he;rcases WfB h hf with⟨rfl,r,hr,rfl,_⟩|⟨j,c,ss,l,s,i,rfl,hc,hs,hi,rfl,_⟩
    ·exact .inr ⟨r,hr,he.symm⟩
    ·rw[zA (by omega),iTn,hc.1,hc.2]at hx;exact .inl ⟨j,c,ss,hc,by simpa[Tk]using hx⟩
   ·cases hx
  ·cases hx
 ·rintro(⟨j,hj⟩|⟨r,hr,rfl⟩)
  ·obtain⟨y,rfl,hf⟩:=hj.find h;obtain⟨c,ss,hc,ht⟩:=hj;unfold WhX;rw[hf];simp only;rw[zB True.intro,zA (by omega),iTn,hc.1,hc.2];unfold Tk at ht;show(isTk c ss (y:Int)==some true)=true;rw[ht];rfl
  ·unfold WhX;have:=h.rpos r hr;rw[WcN h hr (zC _) (by omega)];simp
theorem WI.own1 (h:WI W)(hk:W.ars[k]?=some A){cl:Int}{l:List Int}(ho:ownW W.held k cl l=true){j:Nat}(e:cl=j):∀x∈l,¬InT A j x:=by
 intro x hx hin;obtain⟨p,hp,hpx⟩:=(KA.1 ho).1 x hx;obtain⟨p1,p2,p3,p4⟩:=KB.1 hpx;obtain⟨c,_,_,_,h5⟩:=h.cls hp (j:=j) (by rw[p2,e]) (by rw[p1];exact hk);rw[p3]at h5;rw[h5.2 hin]at p4;cases p4
theorem WI.grow (h:WI W)(hk:W.ars[k]?=some A)(x:Int):WI (W.put k (growS A W.sp x).1 (growS A W.sp x).2 W.held):=by
 obtain⟨s,e1,e2,e3,_⟩:=Wjy (h.ga k A hk) (h.ow k A hk) x;exact h.stepSame hk s e1 e3 e2
theorem WI.from (h:WI W)(hk:W.ars[k]?=some A)(cl m:Int):WI (W.put k (YE A cl m) W.sp (W.held++(Yl A cl m).map λy=>⟨k,cl,y,szOf W.tb cl,false⟩)):=by
 obtain⟨o,e1,e2,e3,e4,e5⟩:=Wbv (h.ga k A hk) cl m;have tb:(YE A cl m).tb=A.tb:=o.kp.tb;have newK:∀y∈Yl A cl m,∃j:Nat,cl=j/\j<A.tb.length:=λy hy=>e3 (λe=>by rw[e]at hy;simp at hy);have hnot:∀y∈Yl A cl m,∀p∈W.held,¬(p.k=k/\p.cls=cl/\p.addr=y):=by
  rintro y hy p hp ⟨a1,a2,a3⟩;obtain⟨j,rfl,_⟩:=newK y hy;obtain⟨c,_,_,ht,_⟩:=h.cls hp a2 (by rw[a1];exact hk);rw[a3]at ht;exact e4 y hy (by rw[iTn];exact ht)
 refine h.step hk (o.st (h.ow k A hk)) ?_ (λp hp e=>?_) (λp hne=>?_) (λj y hy=>?_) λr hr=>?_
 ·rw[zAQ,zBN];refine⟨h.hk,?_,λa ha b hb e=>?_⟩
  ·rw[zAP];exact List.Pairwise.map (R:=(· ≠ ·)) _ (λa b hab e=>hab (by simpa[Pc.key]using e)) e2
  ·subst e;obtain⟨p,hp,rfl⟩:=zE.1 ha;obtain⟨q,hq,e⟩:=zE.1 hb;obtain⟨y,hy,rfl⟩:=zE.1 hq;simp only[Pc.key,Prod.mk.injEq]at e;exact hnot y hy p hp ⟨e.1.symm,e.2.1.symm,e.2.2.symm⟩
 ·rcases zS.1 hp with hp|hp
  ·exact(h.hd hk hp e).to tb o.runs (λj y hj=>(e5 j y).2 (.inl hj)) λj y=>by unfold InT;rw[e1]
  ·obtain⟨y,hy,rfl⟩:=zE.1 hp;obtain⟨j,rfl,hj⟩:=newK y hy;refine .inr ⟨j,A.tb[j],rfl,by rw[tb];exact gGe hj,?_,(e5 j y).2 (.inr ⟨(iTn j).symm,y,hy,rfl⟩),?_⟩
   ·show szOf W.tb (j:Int)=_;unfold szOf;rw[iTn,←h.tb k A hk,gGe hj];rfl
   ·constructor
    ·intro hx;cases hx
    ·rintro⟨t,ht,hx⟩;rw[e1]at ht;obtain⟨c,ss,t',hc,ht'⟩:=(h.ga k A hk).cl hj;rw[ht]at ht';cases ht';exact(e4 y hy (by rw[iTn];exact(KM hc).2 ((h.ga k A hk).trt j c ss t hc ht _ hx))).elim
 ·rw[zS];constructor
  ·rintro(hp|hp)
   ·exact hp
   ·obtain⟨y,_,rfl⟩:=zE.1 hp;exact(hne rfl).elim
  ·exact .inl
 ·rcases(e5 j y).1 hy with hy|⟨rfl,x,hx,rfl⟩
  ·obtain⟨p,hp,q⟩:=h.ht k A hk j y hy;exact⟨p,zAW _ hp,q⟩
  ·obtain⟨j,rfl,_⟩:=newK x hx;exact⟨_,zBP _ (zE.2 ⟨x,hx,rfl⟩),rfl,by simp,rfl⟩
 ·rw[o.runs]at hr;obtain⟨p,hp,q⟩:=h.hr k A hk r hr;exact⟨p,zAW _ hp,q⟩
theorem WI.drp (h:WI W){cl:Int}{l:List Int}(ho:ownW W.held k cl l=true):Whi W.held k cl l=W.held.filter λp=>!isOf k cl l p:=
 WeN l h.hk (KA.1 ho).1 (KA.1 ho).2
theorem WI.toC (h:WI W)(hk:W.ars[k]?=some A){cl:Int}{l:List Int}(ho:ownW W.held k cl l=true):WI (W.put k (Y1 A cl l) W.sp (if QU A cl l=0 then Whi W.held k cl l else W.held)):=by
 have ga:=h.ga k A hk;obtain⟨o,e1,e2,e3⟩:=WbX ga (k:=cl) (xs:=l) λh0 x hx=>by
  obtain⟨j,c,ss,rfl,_⟩:=Wae ga h0;rw[iTn];exact h.own1 hk ho rfl x hx
 by_cases h0:QU A cl l=0
 ·rw[zB h0,h.drp ho];obtain⟨j,c,ss,rfl,hc,hA⟩:=Wae ga h0;have e2:=e2 h0;rw[iTn]at e2;refine h.step hk (o.st (h.ow k A hk)) (V0 h.hk _) (λp hp e=>?_) (λp hne=>?_) (λi y hy=>?_) λr hr=>?_
  ·have hp':=zG.1 hp;have hno:isOf k (j:Int) l p=false:=by simpa using hp'.2
   rcases h.hd hk hp'.1 e with⟨h1,h2,r,hr,h3⟩|⟨i,d,h1,h2,h3,h4,h5⟩
   ·exact .inl ⟨h1,h2,r,by rw[o.runs];exact hr,h3⟩
   ·refine .inr ⟨i,d,h1,by rw[o.kp.tb];exact h2,h3,(e2 i _).2 ⟨h4,λ⟨a,b⟩=>?_⟩,by unfold InT at h5 ⊢;rw[e1];exact h5⟩;have:isOf k (j:Int) l p=true:=Z2.2 ⟨e,by rw[h1,a],b⟩;rw[hno]at this;cases this
  ·rw[zG];have:isOf k (j:Int) l p=false:=by
    apply zBB.2;intro hx;exact hne (Z2.1 hx).1
   rw[this];simp
  ·obtain⟨hy1,hy2⟩:=(e2 i y).1 hy;obtain⟨p,hp,a1,a2,a3⟩:=h.ht k A hk i y hy1;refine⟨p,zG.2 ⟨hp,?_⟩,a1,a2,a3⟩;have:isOf k (j:Int) l p=false:=by
    apply zBB.2;intro hx;obtain⟨_,b2,b3⟩:=Z2.1 hx;exact hy2 ⟨by omega,by rw[←a3];exact b3⟩
   rw[this];rfl
  ·rw[o.runs]at hr;obtain⟨p,hp,a1,a2,a3⟩:=h.hr k A hk r hr;refine⟨p,zG.2 ⟨hp,?_⟩,a1,a2,a3⟩;have:isOf k (j:Int) l p=false:=by
    apply zBB.2;intro hx;have:=(Z2.1 hx).2.1;omega
   rw[this];rfl
 ·rw[zA h0,e3 h0];exact GL hk h
theorem WI.move (h:WI W)(hk:W.ars[k]?=some A){B:AR}{j:Nat}{l:List Int}{m:Bool}(o:Ob A B)(e1:∀i y,TkA B i y↔TkA A i y)(e2:∀i y,InT B i y↔if i=j/\y∈l then m=true else InT A i y):WI (W.put k B W.sp (Hx W.held k (j:Int) l m)):=by
 refine h.step hk (o.st (h.ow k A hk)) (by rw[Wgv];exact h.hk) (λp hp e=>?_) (λp hne=>?_) (λi y hy=>?_) λr hr=>?_
 ·obtain⟨q,hq,rfl⟩:=QJ.1 hp;have hqk:q.k=k:=by
   split at e<;>exact e
  rcases h.hd hk hq hqk with⟨h1,h2,r,hr,h3⟩|⟨i,c,h1,h2,h3,h4,h5⟩
  ·have:isOf k (j:Int) l q=false:=by
    apply zBB.2;intro hx;have:=(Z2.1 hx).2.1;omega
   rw[this];exact .inl ⟨h1,h2,r,by rw[o.runs];exact hr,h3⟩
  ·by_cases hx:isOf k (j:Int) l q=true
   ·rw[zB hx];obtain⟨_,b2,b3⟩:=Z2.1 hx;have hij:i=j:=by omega
    refine .inr ⟨i,c,h1,by rw[o.kp.tb];exact h2,h3,(e1 _ _).2 h4,?_⟩;show m=true↔InT B i (q.addr:Int);rw[e2,zB ⟨hij,b3⟩]
   ·rw[zA hx];refine .inr ⟨i,c,h1,by rw[o.kp.tb];exact h2,h3,(e1 _ _).2 h4,?_⟩;rw[e2,zA λhy=>hx (Z2.2 ⟨hqk,by rw[h1,hy.1],hy.2⟩)];exact h5
 ·rw[QJ];constructor
  ·rintro⟨q,hq,rfl⟩;have:isOf k (j:Int) l q=false:=by
    apply zBB.2;intro hx;rw[zB hx]at hne;exact hne (Z2.1 hx).1
   rw[this];exact hq
  ·intro hp;refine⟨p,hp,?_⟩;have:isOf k (j:Int) l p=false:=by
    apply zBB.2;intro hx;exact hne (Z2.1 hx).1
   rw[this];rfl
 ·obtain⟨p,hp,a1,a2,a3⟩:=h.ht k A hk i y ((e1 i y).1 hy);refine⟨_,QJ.2 ⟨p,hp,rfl⟩,?_,?_,?_⟩
  ·split<;>exact a1
  ·split<;>exact a2
  ·split<;>exact a3
 ·rw[o.runs]at hr;obtain⟨p,hp,a1,a2,a3⟩:=h.hr k A hk r hr;refine⟨_,QJ.2 ⟨p,hp,rfl⟩,?_,?_,?_⟩
  ·split<;>exact a1
  ·split<;>exact a2
  ·split<;>exact a3
theorem WgF {held:List Pc}{k:Nat}{cls:Int}{m:Bool}:Hx held k cls [] m=held:=by
 unfold Hx;have:∀p,isOf k cls [] p=false:=λp=>by simp[isOf]
 simp[this]
theorem WI.fromT (h:WI W)(hk:W.ars[k]?=some A)(cl:Int):WI (W.put k (ZB A cl) W.sp (Hx W.held k cl (YC A cl) false)):=by
 obtain⟨o,e1,e2,e3,e4,e5⟩:=Wda (h.ga k A hk) cl;by_cases hv:YC A cl=[]
 ·rw[hv,WgF];have e6:∀j y,InT (ZB A cl) j y↔InT A j y:=λj y=>by rw[e5,hv];simp
  refine h.step hk (o.st (h.ow k A hk)) h.hk (λp hp e=>(h.hd hk hp e).to o.kp.tb o.runs (λj y=>(e1 j y).2) e6) (λ_ _=>Iff.rfl) (λj y hy=>h.ht k A hk j y ((e1 j y).1 hy)) λr hr=>h.hr k A hk r (by rw[←o.runs];exact hr)
 ·obtain⟨j,rfl,_⟩:=e4 hv;rw[iTn]at e5;exact h.move hk o e1 λi y=>by
   rw[e5];split
   ·rename_i hx;simp[hx]
   ·rename_i hx;simp[hx]
theorem WI.toT (h:WI W)(hk:W.ars[k]?=some A){cl:Int}{l:List Int}(ho:ownW W.held k cl l=true):WI (W.put k (Q6 A cl l) W.sp (if Vh A cl l then Hx W.held k cl l true else W.held)):=by
 by_cases hv:Vh A cl l=true
 ·have hck:∃j:Nat,cl=j:=by
   have hE:Hs A cl l=0:=by
    unfold Vh at hv;simp only[zF,zP]at hv;exact hv.1
   have hck:A.ck cl=true:=by
    unfold Hs at hE;split at hE
    ·assumption
    ·cases hE
   obtain⟨j,hj,_⟩:=U9.1 hck;exact⟨j,hj⟩
  obtain⟨j,rfl⟩:=hck;obtain⟨o,e1,e2,_⟩:=WlH (h.ga k A hk) (j:Int) (xs:=l) (KA.1 ho).2 (by rw[iTn];exact h.own1 hk ho rfl);obtain⟨_,_,e2⟩:=e2 hv;rw[iTn]at e2;rw[hv,zB rfl];exact h.move hk o e1 λi y=>by
   rw[e2];split
   ·rename_i hx;simp[hx]
   ·rename_i hx;simp[hx]
 ·have hv:Vh A cl l=false:=by simpa using hv
  have e:Q6 A cl l=A:=by unfold Q6;rw[hv];rfl
  rw[hv,e];exact GL hk h
theorem WI.takeP (h:WI W)(hk:W.ars[k]?=some A)(m a:Int):WI (W.put k (takeAS A W.sp m a).1 (takeAS A W.sp m a).2 (if Qv A W.sp m a=0 then W.held++[⟨k, -1,Z4 A W.sp m a*256,m.toNat*256,false⟩]else W.held)):=by
 rcases Wdt (h.ga k A hk) (h.ow k A hk) m a with⟨e,hE,_⟩|⟨x,A1,sp1,hp,hE,hV,e,htk,hor,s,et,ek⟩
 ·rw[zA hE,e];exact GL hk h
 ·rw[zB hE,hV];have eR:(takeAS A W.sp m a).1.runs=A.runs++[(x,m.toNat)]:=by rw[e]
  have hnew:∀r∈A.runs,r.1≠x:=by
   have hd:=s.ga.rdis;rw[eR]at hd;intro r hr e2;have h1:=(zBO.1 hd).2.2 r hr (x,m.toNat) (by simp);have h2:=(h.ga k A hk).rpos r hr;have h3:=s.ga.rpos (x,m.toNat) (by rw[eR];simp);simp only at h1 h3;omega
  refine h.step hk s ?_ (λp hp e=>?_) (λp hne=>?_) (λj y hy=>?_) λr hr=>?_
  ·rw[zAQ,zBN];refine⟨h.hk,by simp,λb hb d hd e2=>?_⟩;subst e2;obtain⟨p,hp,rfl⟩:=zE.1 hb;simp only[zW,zDI,zZ,Pc.key,Prod.mk.injEq]at hd;obtain⟨_,r,hr,h3,_⟩:=h.run hp hd.2.1 (A:=A) (by rw[hd.1];exact hk);exact hnew r hr (by omega)
  ·rcases zS.1 hp with hp|hp
   ·rcases h.hd hk hp e with⟨h1,h2,r,hr,h3⟩|⟨j,c,h1,h2,h3,h4,h5⟩
    ·exact .inl ⟨h1,h2,r,by rw[eR];exact zAW _ hr,h3⟩
    ·exact .inr ⟨j,c,h1,by rw[s.tb];exact h2,h3,(ek _ _).2 h4,by unfold InT at h5 ⊢;rw[et];exact h5⟩
   ·simp only[zZ]at hp;subst hp;exact .inl ⟨rfl,rfl,(x,m.toNat),by rw[eR];simp,rfl,rfl⟩
  ·rw[zS];constructor
   ·rintro(hp|hp)
    ·exact hp
    ·simp only[zZ]at hp;subst hp;exact(hne rfl).elim
   ·exact .inl
  ·obtain⟨p,hp,q⟩:=h.ht k A hk j y ((ek j y).1 hy);exact⟨p,zAW _ hp,q⟩
  ·rw[eR]at hr;rcases zS.1 hr with hr|hr
   ·obtain⟨p,hp,q⟩:=h.hr k A hk r hr;exact⟨p,zAW _ hp,q⟩
   ·simp only[zZ]at hr;subst hr;exact⟨_,zBP _ (zZ.2 rfl),rfl,rfl,rfl⟩
theorem WI.giveOwn (h:WI W)(hk:W.ars[k]?=some A){r:Nat×Nat}(hr:r∈A.runs):ownW W.held k (-1) [(r.1:Int)*256]=true:=by
 refine KA.2 ⟨λx hx=>?_,by simp⟩;simp only[zZ]at hx;subst hx;obtain⟨p,hp,a1,a2,a3⟩:=h.hr k A hk r hr;exact⟨p,hp,KB.2 ⟨a1,a2,by omega,(h.run hp a2 (by rw[a1];exact hk)).1⟩⟩
theorem WI.giveP (h:WI W)(hk:W.ars[k]?=some A)(x:Int):WI (W.put k (Qz A x) W.sp (if KN A x=0 then Whi W.held k (-1) [x*256]else W.held)):=by
 have ga:=h.ga k A hk;obtain⟨⟨kp,g⟩,et,ek,e1,e2⟩:=WgT ga x;by_cases h0:KN A x=0
 ·rw[zB h0];obtain⟨r,hr,rfl,eR⟩:=e2 h0;rw[h.drp (h.giveOwn hk hr)];have hof:∀p:Pc,isOf k (-1) [(r.1:Int)*256] p=true↔p.k=k/\p.cls = -1/\p.addr=r.1*256:=λp=>by
   rw[Z2];simp only[zZ];constructor
   ·rintro⟨a,b,c⟩;exact⟨a,b,by omega⟩
   ·rintro⟨a,b,c⟩;exact⟨a,b,by omega⟩
  refine h.step hk (St.kp g (h.ow k A hk) kp) (V0 h.hk _) (λp hp e=>?_) (λp hne=>?_) (λi y hy=>?_) λq hq=>?_
  ·have hp':=zG.1 hp;have hno:¬isOf k (-1) [(r.1:Int)*256] p=true:=by simpa using hp'.2
   rw[hof]at hno;rcases h.hd hk hp'.1 e with⟨h1,h2,q,hq,h3⟩|⟨j,c,h1,h2,h3,h4,h5⟩
   ·refine .inl ⟨h1,h2,q,?_,h3⟩;rw[eR,zG];refine⟨hq,?_⟩;have:q≠r:=by rintro rfl;exact hno ⟨e,h1,h3.1⟩
    simpa using this
   ·exact .inr ⟨j,c,h1,by rw[kp.tb];exact h2,h3,(ek _ _).2 h4,by unfold InT at h5 ⊢;rw[et];exact h5⟩
  ·rw[zG];have:isOf k (-1) [(r.1:Int)*256] p=false:=by
    apply zBB.2;intro hx;exact hne (Z2.1 hx).1
   rw[this];simp
  ·obtain⟨p,hp,a1,a2,a3⟩:=h.ht k A hk i y ((ek i y).1 hy);refine⟨p,zG.2 ⟨hp,?_⟩,a1,a2,a3⟩;have:isOf k (-1) [(r.1:Int)*256] p=false:=by
    apply zBB.2;intro hx;have:=((hof p).1 hx).2.1;omega
   rw[this];rfl
  ·rw[eR,zG]at hq;obtain⟨p,hp,a1,a2,a3⟩:=h.hr k A hk q hq.1;refine⟨p,zG.2 ⟨hp,?_⟩,a1,a2,a3⟩;have:isOf k (-1) [(r.1:Int)*256] p=false:=by
    apply zBB.2;intro hx;have h3:=((hof p).1 hx).2.2;have h4:=ga.rpos q hq.1;have h5:=ga.rpos r hr;have:q=r:=ga.runs_uniq hq.1 hr (x:=q.1) (by omega) (by omega) (by omega) (by omega);subst this;simp at hq
   rw[this];rfl
 ·rw[zA h0,e1 h0];exact GL hk h
theorem WI.tick (h:WI W)(hk:W.ars[k]?=some A):WI (W.put k (UU A) W.sp (Wf8 (W.ars.set k (UU A)) W.held)):=by
 have ga:=h.ga k A hk;have t:=Wjs ga;have hkl:=(gSi.1 hk).1;have self:(W.ars.set k (UU A))[k]?=some (UU A):=zK hkl;have keep:∀p∈W.held,p∈Wf8 (W.ars.set k (UU A)) W.held↔(p.k=k->∀j:Nat,p.cls=j->TkA (UU A) j (p.addr:Int)):=by
  intro p hp;unfold Wf8;rw[zG];simp only[hp,zDD,zAR,zAV];by_cases hpk:p.k=k
  ·rw[hpk,self];simp only[true_implies];rcases h.hd hk hp hpk with⟨h1,h2,r,hr,h3⟩|⟨j,c,h1,h2,h3,h4,h5⟩
   ·exact⟨λ_ j hj=>by omega,λ_=>.inl h2⟩
   ·constructor
    ·intro hx i hi;obtain rfl:i=j:=by omega
     rcases hx with hx|hx
     ·refine(t.tk i _).2 ⟨h4,λhin=>?_⟩;rw[h5.2 hin]at hx;cases hx
     ·rcases(WaD t.ob.ga).1 hx with⟨j',hj'⟩|⟨r,hr,e⟩
      ·obtain⟨y,e,hf⟩:=((t.tk j' _).1 hj').1.find ga;obtain⟨y',e',hf'⟩:=h4.find ga;rw[hf]at hf';have:j'=i:=by
        have:=congrArg Prod.fst (Option.some.inj hf');simp only at this;omega
       rw[←this];exact hj'
      ·rw[t.ob.runs]at hr;have:=ga.rpos r hr;have h6:=WcN ga hr (x:=r.1*256) (zC _) (by omega);obtain⟨y',e',hf'⟩:=h4.find ga;rw[e,h6]at hf';have:=congrArg Prod.fst (Option.some.inj hf');simp only at this;omega
    ·intro hx;by_cases hm:p.moved=true
     ·exact .inr ((WaD t.ob.ga).2 (.inl ⟨j,hx j h1⟩))
     ·exact .inl (by simpa using hm)
  ·constructor
   ·intro _ hx;exact(hpk hx).elim
   ·intro _;obtain⟨C,hC,hh⟩:=h.hf p hp;rw[zd (Ne.symm hpk),hC];rcases hh with⟨h1,h2,_⟩|⟨j,c,_,_,_,h4,_⟩
    ·exact .inl h2
    ·exact .inr ((WaD (h.ga _ C hC)).2 (.inl ⟨j,h4⟩))
 have sub:∀p,p∈Wf8 (W.ars.set k (UU A)) W.held->p∈W.held:=λp hp=>(zG.1 hp).1;refine h.step hk (t.ob.st (h.ow k A hk)) (V0 h.hk _) (λp hp e=>?_) (λp hne=>⟨sub p,λhp=>(keep p hp).2 λe=>(hne e).elim⟩) (λj y hy=>?_) λr hr=>?_
 ·have hk2:=(keep p (sub p hp)).1 hp e;rcases h.hd hk (sub p hp) e with⟨h1,h2,r,hr,h3⟩|⟨j,c,h1,h2,h3,h4,h5⟩
  ·exact .inl ⟨h1,h2,r,by rw[t.ob.runs];exact hr,h3⟩
  ·have hj:=hk2 j h1;refine .inr ⟨j,c,h1,by rw[t.ob.kp.tb];exact h2,h3,hj,?_⟩;rw[h5];exact⟨((t.tk j _).1 hj).2,t.sub j _⟩
 ·obtain⟨p,hp,a1,a2,a3⟩:=h.ht k A hk j y ((t.tk j y).1 hy).1;refine⟨p,(keep p hp).2 λ_ i hi=>?_,a1,a2,a3⟩;obtain rfl:i=j:=by omega
  rw[a3];exact hy
 ·rw[t.ob.runs]at hr;obtain⟨p,hp,a1,a2,a3⟩:=h.hr k A hk r hr;exact⟨p,(keep p hp).2 λ_ i hi=>by omega,a1,a2,a3⟩
theorem WI.page (h:WI W){p:Pc}(hp:p∈W.held)(hk:W.ars[p.k]?=some A){x:Nat}(h1:p.addr<=x)(h2:x<p.addr+p.size):A.f (x/256)=1:=by
 have ga:=h.ga _ A hk;rcases h.hd hk hp rfl with⟨_,_,r,hr,e1,e2⟩|⟨j,c,_,hc,e1,ht,_⟩
 ·exact(ga.usedR hr (by omega) (by omega)).1
 ·obtain⟨c',ss,hcl,htk⟩:=ht;have:c'=c:=Option.some.inj (hcl.1.symm.trans hc);subst this;have hC:=ga.cen j c' ss hcl;obtain⟨l,s,i,hs,hi,e,_⟩:=(V7 hC).1 htk;have e':p.addr=at_ c' s i:=Int.ofNat.inj e;have:=HO hC.pos hi (s:=s) (x:=x) (by omega) (by omega);exact(ga.used hcl (zD hs) this.1 this.2).1
theorem TkA.lt (h:GA A){j:Nat}{x:Int}(hx:TkA A j x):∃y:Nat,x=y/\y<262144:=by
 obtain⟨c,ss,hc,ht⟩:=hx;have hC:=h.cen j c ss hc;obtain⟨l,s,i,hs,hi,rfl,hb⟩:=(V7 hC).1 ht;have hp:=HO hC.pos (s:=s) (x:=at_ c s i) hi (zC _) (by have:=hC.pos;omega);have hu:=(h.used hc (zD hs) hp.1 hp.2).1;have:=h.pg.lt (p:=at_ c s i/256) (by omega);have:=h.pg.n2;exact⟨_,rfl,by omega⟩
theorem GA.traI (h:GA A):TraI A:=by
 intro t ht xs hxs x hx;obtain⟨k,hk⟩:=zM ht;have hkl:k<A.tb.length:=by rw[←h.lt];exact(gSi.1 hk).1
 obtain⟨c,ss,t',hc,_⟩:=h.cl hkl;obtain⟨y,rfl,hy⟩:=TkA.lt h ((KM hc).2 (h.trt k c ss t hc hk x (List.mem_flatten.2 ⟨xs,hxs,hx⟩)));unfold I63;omega
theorem WI.addr_lt (h:WI W){p:Pc}(hp:p∈W.held):p.addr<262144/\p.addr+p.size<=270000:=by
 obtain⟨A,hA,hh⟩:=h.hf p hp;have ga:=h.ga _ A hA;have hn:=ga.pg.n2;rcases hh with⟨_,_,r,hr,h1,h2⟩|⟨j,c,_,hc,h2,h3,_⟩
 ·have h4:=ga.fit hr;have h5:=ga.rpos r hr;omega
 ·obtain⟨y,e,hy⟩:=h3.lt ga;obtain⟨c',ss,hcl,_⟩:=h3;have:c'=c:=Option.some.inj (hcl.1.symm.trans hc);subst this;have hok:=(ga.cen j _ ss hcl).ok;unfold Cls.ok at hok;omega
theorem Wfr:∀(N:Nat) (l:List Nat),l.Nodup->(∀x∈l,x<N)->l.length<=N
 | 0,l,_,h=>by
  cases l with
  | nil=>simp
  | cons x l=>have:=h x (by simp);omega
 | N+1,l,hn,h=>by
  have h1:=Wfr N (l.filter (· != N)) (hn.sublist zCK) λx hx=>by
   have hx:=zG.1 hx;have:=h x hx.1;have:x≠N:=by simpa using hx.2
   omega
  have h2:=List.length_eq_countP_add_countP (l:=l) (p:=(· != N));have h3:l.countP (λa=>¬(a != N)=true)<=1:=by
   have e:l.countP (λa=>¬(a != N)=true)=l.count N:=by
    unfold List.count;apply List.countP_congr;intro x _;simp
   rw[e];exact zGP.1 hn N
  rw[zEX]at h2;omega
theorem WI.apart (h:WI W){p q:Pc}(hp:p∈W.held)(hq:q∈W.held){x:Nat}(p1:p.addr<=x)(p2:x<p.addr+p.size)(q1:q.addr<=x)(q2:x<q.addr+q.size):p=q:=by
 obtain⟨A,hA,hh⟩:=h.hf p hp;obtain⟨B,hB,hg⟩:=h.hf q hq;have e1:=h.page hp hA p1 p2;have e2:=h.page hq hB q1 q2;have hk:p.k=q.k:=h.one (x/256) p.k q.k A B hA hB (by omega) (by omega);rw[←hk,hA]at hB;cases hB;have ga:=h.ga _ A hA;have htb:=ga.tb;have own:∀{r:Pc},Hd A r->r.addr<=x->x<r.addr+r.size->(r.cls = -1/\A.ow (x/256)=41/\∃u∈A.runs,r.addr=u.1*256/\u.1<=x/256/\x/256<u.1+u.2) ∨
  ∃(j:Nat) (c:Cls) (ss:List SpA) (l:Nat) (s:SpA) (i:Nat),r.cls=j/\A.ow (x/256)=j+1/\Cl A j c ss/\ss[l]?=some s/\i<c.n/\r.addr=at_ c s i/\r.size=c.size:=by
  intro r hr r1 r2;rcases hr with⟨c1,_,u,hu,c2,c3⟩|⟨j,c,c1,c2,c3,c4,_⟩
  ·exact .inl ⟨c1,(ga.usedR hu (by omega) (by omega)).2,u,hu,c2,by omega,by omega⟩
  ·obtain⟨c',ss,hcl,ht⟩:=c4;have:c'=c:=Option.some.inj (hcl.1.symm.trans c2);subst this;have hC:=ga.cen j c' ss hcl;obtain⟨l,s,i,hs,hi,e,_⟩:=(V7 hC).1 ht;have e':r.addr=at_ c' s i:=Int.ofNat.inj e;have hpg:=HO hC.pos (s:=s) (x:=x) hi (by omega) (by omega);exact .inr ⟨j,c',ss,l,s,i,c1,(ga.used hcl (zD hs) hpg.1 hpg.2).2,hcl,hs,hi,e',c3⟩
 refine h.unique hp hq ?_;rcases own hh p1 p2 with⟨a1,a2,u,hu,a3,a4,a5⟩|⟨j,c,ss,l,s,i,a1,a2,a3,a4,a5,a6,a7⟩
 ·rcases own hg q1 q2 with⟨b1,b2,w,hw,b3,b4,b5⟩|⟨j',c',ss',l',s',i',b1,b2,b3,b4,b5,b6,b7⟩
  ·have:=ga.runs_uniq hu hw a4 a5 b4 b5;subst this;unfold Pc.key;rw[hk,a1,b1,a3,b3]
  ·have:=b3.lt;omega
 ·rcases own hg q1 q2 with⟨b1,b2,w,hw,b3,b4,b5⟩|⟨j',c',ss',l',s',i',b1,b2,b3,b4,b5,b6,b7⟩
  ·have:=a3.lt;omega
  ·have hj:j=j':=by omega
   subst hj;obtain⟨rfl,rfl⟩:=a3.eq b3;have:=Ud (ga.cen j c ss a3) a4 b4 a5 b5 (x:=x) (by omega) (by omega) (by omega) (by omega);unfold Pc.key;rw[hk,a1,b1,a6,b6,this.2.1,this.2.2]
theorem WI.size_pos (h:WI W){p:Pc}(hp:p∈W.held):8<=p.size/\p.size%8=0:=by
 obtain⟨A,hA,hh⟩:=h.hf p hp;have ga:=h.ga _ A hA;rcases hh with⟨_,_,r,hr,h1,h2⟩|⟨j,c,_,hc,h2,h3,_⟩
 ·have h5:=ga.rpos r hr;omega
 ·obtain⟨c',ss,hcl,_⟩:=h3;have:c'=c:=Option.some.inj (hcl.1.symm.trans hc);subst this;have hok:=(ga.cen j _ ss hcl).ok;unfold Cls.ok at hok;omega
theorem WI.len (h:WI W):W.held.length<=262144:=by
 have hn:(W.held.map (·.addr)).Nodup:=by
  have h1:=zAI.1 h.hk;refine zAI.2 λi j hi hj hij e=>?_;have hi':i<W.held.length:=by simpa using hi
  have hj':j<W.held.length:=by simpa using hj
  refine h1 i j (by simpa using hi') (by simpa using hj') hij ?_;simp only[zCL]at e ⊢;have s1:=(h.size_pos (zk hi')).1;have s2:=(h.size_pos (zk hj')).1;rw[h.apart (zk hi') (zk hj') (x:=W.held[i].addr) (zC _) (by omega) (by omega) (by omega)]
 have:=Wfr 262144 _ hn λx hx=>by
  obtain⟨p,hp,rfl⟩:=zE.1 hx;exact(h.addr_lt hp).1
 simpa using this
end Go.Ar
namespace Go.Ar
open Go.Vc (mget mset mdel)
def cnV (live:List (Int×Bk))(k x:Int):Nat:=live.countP λe=>e.2.2.2.1==k&&e.1==x
def cnL (ls:List Li)(k x:Int):Nat:=if 0<=k then(ls.getD k.toNat liN).os.count x else 0
def cnB (bs:List Bt)(k x:Int):Nat:=(bs.map λb=>if(b.1:Int)=k then b.2.count x else 0).sum
def cnP (p:Option Ph)(k x:Int):Nat:=match p with
 | some (.give s _)=>if k = -1/\x=s*256 then 1 else 0
 | _=>0
def cnT (g:Th)(k x:Int):Nat:=cnL g.ls k x+cnB g.hands k x+cnP g.ph k x
def cnH (H:Hw)(k x:Int):Nat:=cnV H.live k x+(H.ths.map λg=>cnT g k x).sum
def Um (held:List Pc)(k x:Int):Prop:=∃p∈held,p.moved=false/\p.cls=k/\(p.addr:Int)=x
open Classical in
noncomputable def cnW (held:List Pc)(k x:Int):Nat:=if Um held k x then 1 else 0
theorem Wld (held:List Pc)(k x:Int):cnW held k x<=1:=by unfold cnW;split<;>omega
theorem Wer {held:List Pc}{k x:Int}(h:1<=cnW held k x):Um held k x:=by
 unfold cnW at h;split at h
 ·assumption
 ·omega
theorem KK {held:List Pc}{k x:Int}(h:Um held k x):cnW held k x=1:=by unfold cnW;rw[zB h]
theorem QQ {held:List Pc}{k x:Int}(h:¬Um held k x):cnW held k x=0:=by unfold cnW;rw[zA h]
theorem Wjd {held held':List Pc}(h:∀k x,Um held' k x↔Um held k x)(k x:Int):cnW held' k x=cnW held k x:=by
 by_cases hu:Um held k x
 ·rw[KK hu,KK ((h k x).2 hu)]
 ·rw[QQ hu,QQ λhx=>hu ((h k x).1 hx)]
theorem Wk2 {l:List Int}(hn:l.Nodup)(x:Int):l.count x=if x∈l then 1 else 0:=by
 split
 ·rename_i h;have h1:=zGP.1 hn x;have h2:=zGQ.2 h;omega
 ·rename_i h;exact zEM.2 h
theorem Wd0 {held held':List Pc}{cl:Int}{l:List Int}(hn:l.Nodup)(h0:∀x∈l,¬Um held cl x)(h:∀k x,Um held' k x↔Um held k x\/(k=cl/\x∈l))(k x:Int):cnW held' k x=cnW held k x+(if cl=k then l.count x else 0):=by
 by_cases hk:cl=k
 ·subst hk;rw[zB rfl,Wk2 hn];by_cases hx:x∈l
  ·rw[zB hx,QQ (h0 x hx),KK ((h _ _).2 (.inr ⟨rfl,hx⟩))]
  ·rw[zA hx,zo];by_cases hu:Um held cl x
   ·rw[KK hu,KK ((h _ _).2 (.inl hu))]
   ·rw[QQ hu,QQ λhy=>by rcases(h _ _).1 hy with hy|⟨_,hy⟩;exact hu hy;exact hx hy]
 ·rw[zA hk,zo];by_cases hu:Um held k x
  ·rw[KK hu,KK ((h _ _).2 (.inl hu))]
  ·rw[QQ hu,QQ λhy=>by rcases(h _ _).1 hy with hy|⟨hy,_⟩;exact hu hy;exact hk hy.symm]
theorem Wh4 {held held':List Pc}{cl:Int}{l:List Int}(hn:l.Nodup)(h0:∀x∈l,Um held cl x)(h:∀k x,Um held' k x↔Um held k x/\¬(k=cl/\x∈l))(k x:Int):cnW held k x=cnW held' k x+(if cl=k then l.count x else 0):=by
 by_cases hk:cl=k
 ·subst hk;rw[zB rfl,Wk2 hn];by_cases hx:x∈l
  ·rw[zB hx,KK (h0 x hx),QQ λhy=>((h _ _).1 hy).2 ⟨rfl,hx⟩]
  ·rw[zA hx,zo];by_cases hu:Um held cl x
   ·rw[KK hu,KK ((h _ _).2 ⟨hu,λhy=>hx hy.2⟩)]
   ·rw[QQ hu,QQ λhy=>hu ((h _ _).1 hy).1]
 ·rw[zA hk,zo];by_cases hu:Um held k x
  ·rw[KK hu,KK ((h _ _).2 ⟨hu,λhy=>hk hy.1.symm⟩)]
  ·rw[QQ hu,QQ λhy=>hu ((h _ _).1 hy).1]
theorem WhD {α:Type}(f:α->Nat):∀{l:List α} {t:Nat} {g:α} (g':α),l[t]?=some g->((l.set t g').map f).sum+f g=(l.map f).sum+f g'
 | [],t,g,g',h=>by simp at h
 | a::l,0,g,g',h=>by
  simp only[zGG,Option.some.injEq]at h;subst h;simp only[List.set_cons_zero,zW,zAU];omega
 | a::l,t+1,g,g',h=>by
  have:=WhD f (l:=l) (t:=t) g' (by simpa using h);simp only[zCQ,zW,zAU];omega
theorem WdE {α:Type}(f:α->Nat){l:List α}{g:α}(h:g∈l):f g<=(l.map f).sum:=by
 induction l with
 | nil=>simp at h
 | cons a l ih=>
  simp only[zW,zAU];rcases zR.1 h with rfl|h
  ·omega
  ·have:=ih h;omega
theorem WaM (ls:List Li)(k:Nat)(x:Int):cnL ls (k:Int) x=(ls.getD k liN).os.count x:=by
 unfold cnL;rw[zB (by omega),iTn]
theorem Wfo {ls:List Li}{j:Nat}(l:Li)(k:Nat)(h:j<ls.length):(ls.set j l).getD k liN=if k=j then l else ls.getD k liN:=by
 rw[zL,zBD];by_cases hkj:k=j
 ·subst hkj;simp[h]
 ·rw[zA hkj,zA (Ne.symm hkj),zL]
theorem WlG {ls:List Li}{j:Nat}(l:Li)(h:j<ls.length)(k x:Int):cnL (ls.set j l) k x+(if(j:Int)=k then(ls.getD j liN).os.count x else 0)=cnL ls k x+(if(j:Int)=k then l.os.count x else 0):=by
 by_cases hk:0<=k
 ·obtain⟨k,rfl⟩:=ze hk;rw[WaM,WaM,Wfo l k h];by_cases hjk:j=k
  ·subst hjk;simp;omega
  ·have:¬(j:Int)=(k:Int):=by omega
   rw[zA (Ne.symm hjk),zA this,zA this]
 ·unfold cnL;rw[zA hk,zA hk,zA (by omega),zA (by omega)]
theorem VB (k x:Int):cnB [] k x=0:=rfl
theorem Kz (b:Bt)(bs:List Bt)(k x:Int):cnB (b::bs) k x=(if(b.1:Int)=k then b.2.count x else 0)+cnB bs k x:=by
 unfold cnB;rw[zW,zAU]
theorem WbB (a b:List Bt)(k x:Int):cnB (a++b) k x=cnB a k x+cnB b k x:=by
 unfold cnB;rw[zAQ,zFK]
theorem cnF {f:Cls->Li->List Int×Li}(hf:∀c l x,(f c l).1.count x+(f c l).2.os.count x=l.os.count x){tb:List Cls}{ls:List Li}(hl:ls.length=tb.length)(k x:Int):cnB (Kb f tb ls) k x+cnL (Q8 f tb ls) k x=cnL ls k x:=by
 have key:∀n,n<=tb.length->cnB ((List.range n).filterMap λk=>match tb[k]?,ls[k]? with
  | some c,some l=>if(f c l).1=[]then none else some (k,(f c l).1)
  | _,_=>none) k x=if 0<=k/\k<(n:Int)then(match tb[k.toNat]?,ls[k.toNat]? with
  | some c,some l=>(f c l).1.count x
  | _,_=>0)else 0:=by
  intro n
  induction n with
  | zero=>intro _;rw[zA (by omega)];rfl
  | succ n ih=>
   intro hn;have ih:=ih (by omega);rw[zr,zDZ,WbB,ih];have hc:tb[n]?=some tb[n]:=gGe (by omega);have hli:ls[n]?=some ls[n]:=gGe (by omega);have e:cnB ([n].filterMap λk=>match tb[k]?,ls[k]? with
    | some c,some l=>if(f c l).1=[]then none else some (k,(f c l).1)
    | _,_=>none) k x=if(n:Int)=k then(f tb[n] ls[n]).1.count x else 0:=by
    rw[zFT,hc,hli];simp only;by_cases he:(f tb[n] ls[n]).1=[]
    ·rw[zB he,he];simp[VB]
    ·rw[zA he];simp only[List.filterMap_nil,Kz,VB,zo]
   rw[e];by_cases h1:0<=k/\k<(n:Int)
   ·rw[zB h1,zA (show ¬(n:Int)=k by omega),zo,zB (show 0<=k/\k<((n+1:Nat):Int)from⟨h1.1,by omega⟩)]
   ·rw[zA h1,zJ];by_cases h2:(n:Int)=k
    ·subst h2;rw[zB rfl,zB (show(0:Int)<=(n:Int)/\(n:Int)<((n+1:Nat):Int)from⟨by omega,by omega⟩),iTn,hc,hli]
    ·rw[zA h2,zA (by omega)]
 have h1:=key tb.length (zC _);have e:Kb f tb ls=(List.range tb.length).filterMap λk=>match tb[k]?,ls[k]? with
  | some c,some l=>if(f c l).1=[]then none else some (k,(f c l).1)
  | _,_=>none:=rfl
 rw[e,h1];by_cases hk:0<=k
 ·obtain⟨k,rfl⟩:=ze hk;rw[WaM,WaM,iTn];by_cases hkl:k<tb.length
  ·have hc:tb[k]?=some tb[k]:=gGe hkl;have hli:ls[k]?=some ls[k]:=gGe (by omega);rw[zB ⟨by omega,by omega⟩,hc,hli];simp only;have:(Q8 f tb ls).getD k liN=(f tb[k] ls[k]).2:=by
    unfold Q8;rw[zL,zGN,hc,hli];rfl
   rw[this,zL,hli];exact hf _ _ _
  ·rw[zA (by omega),zJ];have h1:(Q8 f tb ls).getD k liN=liN:=by
    unfold Q8;rw[zL,zU (by rw[List.length_zipWith];omega)];rfl
   have h2:ls.getD k liN=liN:=by rw[zL,zU (by omega)];rfl
   rw[h1,h2]
 ·rw[zA (by omega),zJ];unfold cnL;rw[zA hk,zA hk]
theorem Wel (m:Nat)(l:Li)(x:Int):(oldL m l).1.count x+(oldL m l).2.os.count x=l.os.count x:=by
 show(l.os.take m).count x+(l.os.drop m).count x=_;rw[←zDO,zBG]
theorem Wkc (c:Cls)(l:Li)(x:Int):(KF c l).1.count x+(KF c l).2.os.count x=l.os.count x:=Wel _ l x
theorem WiH (c:Cls)(l:Li)(x:Int):(ZM c l).1.count x+(ZM c l).2.os.count x=l.os.count x:=Wel _ l x
theorem WmI (c:Cls)(y:Int)(l:Li)(hl:l.os.length<=255)(x:Int):(putL c y l).1.count x+(putL c y l).2.os.count x=l.os.count x + [y].count x:=by
 have hadd:(addL [y] l).os=l.os++[y]:=by
  unfold addL;rw[zA (by simp;omega)]
 unfold putL;rw[zA (by omega)];split
 ·rw[hadd,List.count_nil,zJ,zDO]
 ·rw[Wel];have:(upL c (addL [y] l)).os=(addL [y] l).os:=by unfold upL;split<;>rfl
  rw[this,hadd,zDO]
theorem WeA {c:Cls}{l l':Li}{y:Int}(h:Ka c l=(some y,l'))(x:Int):l.os.count x=l'.os.count x + [y].count x:=by
 unfold Ka at h;split at h
 ·simp at h
 ·rename_i z hz;cases h;have:l.os=l.os.dropLast++[y]:=by
   obtain⟨ys,hy⟩:=List.getLast?_eq_some_iff.1 hz;rw[hy];simp
  conv=>lhs;rw[this]
  rw[zDO]
theorem Wis {c:Cls}{l l':Li}(h:Ka c l=(none,l')):l.os=[]/\l'.os=[]:=by
 unfold Ka at h;split at h
 ·rename_i hz;have:l.os=[]:=by simpa using hz
  cases h;refine⟨this,?_⟩;split<;>exact this
 ·simp at h
theorem Wcc {live:List (Int×Bk)}{x:Int}(b:Bk)(h:mget live x=none)(k y:Int):cnV (mset live x b) k y=cnV live k y+(if b.2.2.1=k then[x].count y else 0):=by
 have ha:live.any (λe=>e.1==x)=false:=by
  rw[zAO];intro e he hx;unfold mget at h;rw[zDR,zBW]at h;exact h e he hx
 unfold mset;rw[ha,zA (by simp)];unfold cnV;rw[List.countP_append]
 congr 1
 rw[zEK,List.countP_nil,zJ];by_cases h1:b.2.2.1=k
 ·by_cases h2:x=y
  ·subst h2;simp[h1]
  ·simp[h1,h2]
 ·simp[h1]
theorem VY {live:List (Int×Bk)}{x:Int}{b:Bk}(h:mget live x=none){e:Int×Bk}:e∈mset live x b↔e∈live\/e=(x,b):=by
 have ha:live.any (λe=>e.1==x)=false:=by
  rw[zAO];intro e he hx;unfold mget at h;rw[zDR,zBW]at h;exact h e he hx
 unfold mset;rw[ha,zA (by simp),zS,zZ]
theorem GD {live:List (Int×Bk)}{x:Int}{e:Int×Bk}:e∈mdel live x↔e∈live/\e.1≠x:=by
 unfold mdel;rw[zG];simp
theorem WbZ:∀{live:List (Int×Bk)} {x:Int} {b:Bk},(live.map (·.1)).Nodup->mget live x=some b->∀k y,cnV live k y=cnV (mdel live x) k y+(if b.2.2.1=k then[x].count y else 0)
 | [],x,b,_,h,_,_=>by simp[mget]at h
 | e::l,x,b,hn,h,k,y=>by
  rw[zW,zq]at hn;by_cases he:e.1=x
  ·have hb:e.2=b:=by
    unfold mget at h;rw[List.find?_cons_of_pos (by simpa using he)]at h;simpa using h
   have hd:mdel (e::l) x=l:=by
    unfold mdel;rw[zGL (by simpa using he),zCB];intro a ha;have:a.1≠x:=λhx=>hn.1 (zE.2 ⟨a,ha,hx.trans he.symm⟩);simpa using this
   rw[hd];unfold cnV;rw[zEK,hb,he]
   congr 1
   by_cases h1:b.2.2.1=k
   ·by_cases h2:x=y
    ·subst h2;simp[h1]
    ·simp[h1,h2]
   ·simp[h1]
  ·have hm:mget l x=some b:=by
    unfold mget at h ⊢
    rwa [List.find?_cons_of_neg (by simpa using he)]at h
   have ih:=WbZ hn.2 hm k y;have hd:mdel (e::l) x=e::mdel l x:=by
    unfold mdel;rw[zGM (by simpa using he)]
   rw[hd];unfold cnV at ih ⊢;rw[zEK,zEK,ih];omega
theorem WiZ {live:List (Int×Bk)}{e:Int×Bk}(h:e∈live):1<=cnV live e.2.2.2.1 e.1:=by
 unfold cnV;exact List.countP_pos_iff.2 ⟨e,h,by simp⟩
structure Sim (s s':Sp):Prop where
 l:s'.st.length=s.st.length
 z:∀p,gf s'.st p=0↔gf s.st p=0
 w:s'.wd=s.wd
def PhI (m:Nat)(g:Th):Prop:=match g.ph with
 | none=>g.hands=[]
 | some (.take k)=>g.hands=[]/\k<m
 | some (.transfer k w)=>g.hands=[]/\k<m/\(g.li k).os=[]/\1<=w/\w<=32
 | some (.central k w)=>g.hands=[]/\k<m/\(g.li k).os=[]/\1<=w/\w<=32
 | some (.grow k w)=>g.hands=[]/\k<m/\(g.li k).os=[]/\1<=w/\w<=32
 | some .fill=>∃k x xs,g.hands=[(k,x::xs)]/\k<m/\(g.li k).os=[]/\xs.length<=128
 | some (.large n)=>g.hands=[]/\1<=n/\n<=64
 | some (.find x)=>g.hands=[]/\I63 x
 | some (.put k x)=>g.hands=[(k,[x])]/\k<m
 | some .back=>g.hands≠[]
 | some (.give _ _)=>g.hands=[]
 | some .drain=>g.hands=[]
structure ThI (m:Nat) (g:Th):Prop where
 ll:g.ls.length=m
 lo:∀l∈g.ls,LiOk l/\l.os.length<=128
 hb:∀b∈g.hands,b.1<m/\b.2≠[]/\b.2.length<=256
 hl:g.hands.length<=41
 ph:PhI m g
def Lv (held:List Pc)(e:Int×Bk):Prop:=e.2.1=e.1/\∃p∈held,p.moved=false/\p.cls=e.2.2.2.1/\(p.addr:Int)=e.1/\e.2.2.1=(p.size:Int)/\e.2.2.2.2=(p.k:Int)
def Gv (held:List Pc)(s a:Int):Prop:=∃p∈held,p.moved=false/\p.cls = -1/\(p.addr:Int)=s*256/\a=(p.k:Int)
structure HI (H:Hw) (held:List Pc) (s0:Sp):Prop where
 wi:WI ⟨H.tb,s0,H.ars,held⟩
 sim:Sim s0 H.sp
 cn:∀k x,cnH H k x=cnW held k x
 lk:(H.live.map (·.1)).Nodup
 lv:∀e∈H.live,Lv held e
 gv:∀g∈H.ths,∀s a,g.ph=some (.give s a)->Gv held s a
 th:∀g∈H.ths,ThI H.tb.length g
 ok:∀c∈H.tb,c.ok
 a1:1<=H.ars.length
 sl:H.sp.st.length=H.cf.pages
variable {H:Hw}{held:List Pc}{s0:Sp}{t k:Nat}{g:Th}{A:AR}
theorem Sim.refl (s:Sp):Sim s s:=⟨rfl,λ_=>Iff.rfl,rfl⟩
theorem HI.apart (h:HI H held s0){p q:Pc}(hp:p∈held)(hq:q∈held){x:Nat}(p1:p.addr<=x)(p2:x<p.addr+p.size)(q1:q.addr<=x)(q2:x<q.addr+q.size):p=q:=h.wi.apart hp hq p1 p2 q1 q2
theorem WI.same {W:Wd}(h:WI W){p q:Pc}(hp:p∈W.held)(hq:q∈W.held)(e:p.addr=q.addr):p=q:=by
 have h1:=(h.size_pos hp).1;have h2:=(h.size_pos hq).1;exact h.apart hp hq (x:=p.addr) (zC _) (by omega) (by omega) (by omega)
theorem WI.um {W:Wd}(h:WI W){p:Pc}(hp:p∈W.held){k x:Int}(hu:Um W.held k x)(e:(p.addr:Int)=x):p.moved=false/\p.cls=k:=by
 obtain⟨q,hq,h1,h2,h3⟩:=hu;obtain rfl:=h.same hp hq (by omega);exact⟨h1,h2⟩
theorem HI.live_um (h:HI H held s0){e:Int×Bk}(he:e∈H.live):Um held e.2.2.2.1 e.1:=by
 obtain⟨_,p,hp,h1,h2,h3,_⟩:=h.lv e he;exact⟨p,hp,h1,h2,h3⟩
theorem HI.cnT_le (h:HI H held s0){g:Th}(hg:g∈H.ths)(k x:Int):cnT g k x<=cnW held k x:=by
 rw[←h.cn];unfold cnH;have:=WdE (λg=>cnT g k x) hg;omega
theorem HI.um_t (h:HI H held s0){g:Th}(hg:g∈H.ths){k x:Int}(hc:1<=cnT g k x):Um held k x:=Wer (zN hc (h.cnT_le hg k x))
theorem HI.not_live (h:HI H held s0){g:Th}(hg:g∈H.ths){k x:Int}(hc:1<=cnT g k x):mget H.live x=none:=by
 cases hm:mget H.live x with
 | none=>rfl
 | some b=>
  have he:=GB hm;have hu:=h.um_t hg hc;obtain⟨q,hq,h1,h2,h3⟩:=h.live_um he;have hk:k=b.2.2.1:=by
   have:=(h.wi.um (W:=⟨H.tb,s0,H.ars,held⟩) hq hu h3).2;exact this.symm.trans h2
  have h4:=WiZ he;have h5:=h.cn k x;have h6:=Wld held k x;have h7:=WdE (λg=>cnT g k x) hg;simp only at h4 h7;unfold cnH at h5;rw[hk]at h5 h6 h7 hc;omega
theorem HI.not_um (h:HI H held s0){x:Int}(hn:∀k,¬Um held k x):mget H.live x=none:=by
 cases hm:mget H.live x with
 | none=>rfl
 | some b=>exact(hn _ (h.live_um (GB hm))).elim
theorem HI.upd (h:HI H held s0)(hg:H.ths[t]?=some g){g':Th}{live':List (Int×Bk)}{s0' sp':Sp}{ars':List AR}{held':List Pc}(wi:WI ⟨H.tb,s0',ars',held'⟩)(sim:Sim s0' sp')(hsl:sp'.st.length=H.sp.st.length)(hl:ars'.length=H.ars.length)
 (sub:∀p∈held',p.moved=false->p∈held\/∀k,¬Um held k (p.addr:Int))
 (cn:∀k x,cnV live' k x+cnT g' k x+cnW held k x=cnV H.live k x+cnT g k x+cnW held' k x)
 (lk:(live'.map (·.1)).Nodup) (lv:∀e∈live',e∈H.live\/Lv held' e) (gv:∀s a,g'.ph=some (.give s a)->Gv held' s a) (th:ThI H.tb.length g') :
 HI {H with live:=live',sp:=sp',ars:=ars',ths:=H.ths.set t g'} held' s0':=by
 have cn':∀k x,cnH {H with live:=live',sp:=sp',ars:=ars',ths:=H.ths.set t g'} k x=cnW held' k x:=λk x=>by
  have h1:=h.cn k x;have h2:=cn k x;have h3:=WhD (λg=>cnT g k x) g' hg;unfold cnH at h1 ⊢;simp only at h3 ⊢;omega
 have ht:=(gSi.1 hg).1;have keep:∀p∈held,p.moved=false->Um held' p.cls (p.addr:Int)->p∈held':=λp hp hm ⟨q,hq,h1,h2,h3⟩=>by
  rcases sub q hq h1 with hs|hs
  ·have:q=p:=h.wi.same (W:=⟨H.tb,s0,H.ars,held⟩) hs hp (by omega);rw[←this];exact hq
  ·exact(hs p.cls ⟨p,hp,hm,rfl,h3.symm⟩).elim
 refine⟨wi,sim,cn',lk,λe he=>?_,λg2 hg2 s a hp=>?_,λg2 hg2=>?_,h.ok,by simp only;rw[hl];exact h.a1,hsl.trans h.sl⟩
 ·rcases lv e he with he'|he'
  ·obtain⟨h0,p,hp,h1,h2,h3,h4⟩:=h.lv e he';refine⟨h0,p,keep p hp h1 ?_,h1,h2,h3,h4⟩;rw[h2,h3];apply Wer;rw[←cn'];have:1<=cnV live' e.2.2.2.1 e.1:=WiZ he;unfold cnH;simp only;omega
  ·exact he'
 ·rcases List.mem_iff_getElem?.1 hg2 with⟨j,hj⟩;rcases KW hj with⟨rfl,rfl,_⟩|⟨hne,hj'⟩
  ·exact gv s a hp
  ·obtain⟨p,hp1,h1,h2,h3,h4⟩:=h.gv g2 (zD hj') s a hp;refine⟨p,keep p hp1 h1 ?_,h1,h2,h3,h4⟩;rw[h2,h3];apply Wer;rw[←cn'];have h5:=WdE (λg=>cnT g (-1) (s*256)) hg2;have h6:1<=cnT g2 (-1) (s*256):=by unfold cnT;rw[hp];simp[cnP]
   unfold cnH;simp only at h5 ⊢;omega
 ·rcases List.mem_iff_getElem?.1 hg2 with⟨j,hj⟩;rcases KW hj with⟨rfl,rfl,_⟩|⟨hne,hj'⟩
  ·exact th
  ·exact h.th g2 (zD hj')
theorem HI.updT (h:HI H held s0)(hg:H.ths[t]?=some g){g':Th}{live':List (Int×Bk)}(cn:∀k x,cnV live' k x+cnT g' k x=cnV H.live k x+cnT g k x)(lk:(live'.map (·.1)).Nodup)(lv:∀e∈live',e∈H.live\/Lv held e)
 (gv:∀s a,g'.ph=some (.give s a)->Gv held s a) (th:ThI H.tb.length g'):HI {H with live:=live',ths:=H.ths.set t g'} held s0:=
 h.upd hg h.wi h.sim rfl rfl (λp hp _=>.inl hp) (λk x=>by have:=cn k x;omega) lk lv gv th
theorem HI.updA (h:HI H held s0){s0' sp':Sp}{ars':List AR}{held':List Pc}(wi:WI ⟨H.tb,s0',ars',held'⟩)(sim:Sim s0' sp')(hsl:sp'.st.length=H.sp.st.length)(hl:ars'.length=H.ars.length)(um:∀k x,Um held' k x↔Um held k x)(sub:∀p∈held',p.moved=false->p∈held) :
 HI {H with sp:=sp',ars:=ars'} held' s0':=by
 have keep:∀p∈held,p.moved=false->p∈held':=λp hp hm=>by
  obtain⟨q,hq,h1,h2,h3⟩:=(um p.cls (p.addr:Int)).2 ⟨p,hp,hm,rfl,rfl⟩;have:q=p:=h.wi.same (W:=⟨H.tb,s0,H.ars,held⟩) (sub q hq h1) hp (by omega);rw[←this];exact hq
 refine⟨wi,sim,λk x=>(h.cn k x).trans (Wjd um k x).symm,h.lk,λe he=>?_,λg hg s a hp=>?_,h.th,h.ok,by simp only;rw[hl];exact h.a1,hsl.trans h.sl⟩
 ·obtain⟨h0,p,hp,h1,h2⟩:=h.lv e he;exact⟨h0,p,keep p hp h1,h1,h2⟩
 ·obtain⟨p,hp1,h1,h2⟩:=h.gv g hg s a hp;exact⟨p,keep p hp1 h1,h1,h2⟩
theorem Wgc {A:AR}{x:Int}:War A x=true↔0<=x/\A.f x.toNat≠0:=by
 unfold War AR.f gf;simp
theorem WI.owner {W:Wd}(h:WI W){p:Pc}(hp:p∈W.held){x:Nat}(h1:p.addr<=x)(h2:x<p.addr+p.size):Yk W.ars (x:Int)=(p.k:Int):=by
 obtain⟨A,hA,_⟩:=h.hf p hp;have hpg:=h.page hp hA h1 h2;have hkl:=(gSi.1 hA).1;have own:∀(j:Nat) (B:AR),W.ars[j]?=some B->(War B ((x:Int)/256)=true↔j=p.k):=λj B hB=>by
  have e:((x:Int)/256).toNat=x/256:=by omega
  rw[Wgc,e];constructor
  ·rintro⟨_,hf⟩;exact h.one (x/256) j p.k B A hB hA hf (by omega)
  ·rintro rfl;rw[hA]at hB;cases hB;exact⟨by omega,by omega⟩
 unfold Yk;rw[zA (by omega)];have hf:W.ars.findIdx? (λA=>War A ((x:Int)/256))=some p.k:=by
  rw[zBC];refine⟨hkl,(own p.k _ (gGe hkl)).2 rfl,λj hj=>?_⟩;have:=own j W.ars[j] (gGe (by omega));intro hx;have:=this.1 hx;omega
 rw[hf]
theorem HI.owner (h:HI H held s0){p:Pc}(hp:p∈held){x:Nat}(h1:p.addr<=x)(h2:x<p.addr+p.size):Yk H.ars (x:Int)=(p.k:Int):=h.wi.owner (W:=⟨H.tb,s0,H.ars,held⟩) hp h1 h2
theorem HI.owner0 (h:HI H held s0){p:Pc}(hp:p∈held):Yk H.ars (p.addr:Int)=(p.k:Int):=h.owner hp (zC _) (by have:=(h.wi.size_pos (W:=⟨H.tb,s0,H.ars,held⟩) hp).1;omega)
theorem HI.i63 (h:HI H held s0){k x:Int}(hu:Um held k x):I63 x/\0<=x/\0<=Yk H.ars x:=by
 obtain⟨p,hp,_,_,rfl⟩:=hu;have:=(h.wi.addr_lt (W:=⟨H.tb,s0,H.ars,held⟩) hp).1;refine⟨by unfold I63;omega,by omega,?_⟩;rw[h.owner0 hp];omega
end Go.Ar
namespace Go.Ar
open Go.Vc (mget mset mdel)
open Go.Bu (Y3)
structure KS (s s':Sp):Prop where
 l:s'.st.length=s.st.length
 k:∀p,gf s.st p≠0->gf s'.st p≠0/\∀w,w/32=p->s'.wd w=s.wd w
theorem KS.refl (s:Sp):KS s s:=⟨rfl,λp hp=>⟨hp,λ_ _=>rfl⟩⟩
theorem KS.trans {a b c:Sp}(h:KS a b)(k:KS b c):KS a c:=⟨k.l.trans h.l,λp hp=>⟨(k.k p (h.k p hp).1).1,λw hw=>((k.k p (h.k p hp).1).2 w hw).trans ((h.k p hp).2 w hw)⟩⟩
variable {s s' sp sp' s0 s0':Sp}{A B:AR}{k:Nat}
theorem Sim.mz (h:Sim s s'):s'.st.map (λx=>decide (x=0))=s.st.map λx=>decide (x=0):=by
 refine zm λi=>?_;rw[zg,zg];have hz:=h.z i;unfold gf at hz;rw[zL,zL]at hz;by_cases hi:i<s.st.length
 ·have hi':i<s'.st.length:=by rw[h.l];exact hi
  rw[gGe hi,gGe hi']at hz ⊢;simp only[zBH]at hz;simp[hz]
 ·have hl:=h.l;rw[zU (by omega),zU (by omega)]
theorem Wlf {l l':List Nat}(h:l'.map (λx=>decide (x=0))=l.map λx=>decide (x=0))(a m:Nat)(f:Bool->Bool):((l'.drop a).take m).any (λx=>f (decide (x=0)))=((l.drop a).take m).any λx=>f (decide (x=0)):=by
 have e:∀l:List Nat,((l.drop a).take m).any (λx=>f (decide (x=0)))=(((l.map λx=>decide (x=0)).drop a).take m).any f:=λl=>by
  rw[←List.map_drop,←List.map_take,List.any_map];rfl
 rw[e,e,h]
theorem Sim.mapE (h:Sim s s')(a m:Int):mapE s' a m=mapE s a m:=by
 unfold Go.Ar.mapE;rw[h.l];have:=Wlf h.mz a.toNat m.toNat (λb=>!b);have e:∀l:List Nat,l.any (λx=>x != 0)=l.any λx=>!decide (x=0):=λl=>by
  refine congrArg l.any (funext λx=>?_);cases x<;>rfl
 rw[e,e,this]
theorem Sim.leaveE (h:Sim s s')(a m:Int):leaveE s' a m=leaveE s a m:=by
 unfold Go.Ar.leaveE Wku;rw[h.l];have:=Wlf h.mz a.toNat m.toNat (λb=>b);have e:∀l:List Nat,l.contains 0=l.any λx=>decide (x=0):=λl=>by
  rw[zBF];simp only[zCW,zz,zP,exists_eq_right]
 rw[e,e,this]
theorem Sim.set (h:Sim s s'){a m v:Nat}(hl:a+m<=s.st.length):Sim (s.set a m v) (s'.set a m v):=by
 refine⟨by simp[Sp.set,Qi,h.l],λp=>?_,?_⟩
 ·show gf (setR s'.st a (a+m) v) p=0↔gf (setR s.st a (a+m) v) p=0;rw[He (by rw[h.l];exact hl),He hl];split
  ·exact Iff.rfl
  ·exact h.z p
 ·show(λw=>if a*32<=w/\w<(a+m)*32 then 0 else s'.wd w)=_
  rw[h.w];rfl
theorem Wlb {n:Nat}{a m:Int}(h:Y3 n a m=true):a.toNat+m.toNat<=n:=by
 by_cases h0:0<=a/\0<=m
 ·obtain⟨a,rfl⟩:=ze h0.1;obtain⟨m,rfl⟩:=ze h0.2;rw[iTn,iTn];exact(Vb.1 h).2
 ·exfalso;unfold Y3 at h;simp at h;omega
theorem Sim.mapS (h:Sim s s')(a m:Int):Sim (mapS s a m) (mapS s' a m):=by
 unfold Go.Ar.mapS;rw[h.mapE];split
 ·rename_i h0;refine h.set ?_;unfold Go.Ar.mapE at h0;split at h0
  ·rename_i hr;exact Wlb hr
  ·simp at h0
 ·exact h
theorem Sim.leaveS (h:Sim s s')(a m:Int)(v:Nat):Sim (leaveS s a m v) (leaveS s' a m v):=by
 unfold Go.Ar.leaveS;rw[h.leaveE];split
 ·rename_i h0;refine h.set ?_;unfold Go.Ar.leaveE at h0;split at h0
  ·rename_i hr;exact Wlb hr
  ·simp at h0
 ·exact h
theorem Wi3 (s:Sp)(a m:Nat):KS s (mapS s (a:Int) (m:Int)):=by
 by_cases h:mapE s (a:Int) (m:Int)=0
 ·have hz:=WaE h;obtain⟨h1,h2,h3,_⟩:=Wg7 h;refine⟨h1,λp hp=>?_⟩;have hout:¬(a<=p/\p<a+m):=λhx=>hp (hz.2.2 p hx.1 hx.2);exact⟨by rw[h2,zA hout];exact hp,λw hw=>h3 w (by omega)⟩
 ·unfold mapS;rw[zA h];exact KS.refl s
theorem Sim.growStart (h:Sim s s')(size:Nat):growStart s' size=growStart s size:=by
 unfold Go.Ar.growStart;rw[h.l]
 congr 1
 funext x
 rw[h.mapE]
theorem Sim.getA (h:Sim s s')(A:AR)(m a no:Nat):(getA A s' m a no).1=(getA A s m a no).1/\(getA A s' m a no).2.1=(getA A s m a no).2.1/\Sim (getA A s m a no).2.2 (getA A s' m a no).2.2/\KS s' (getA A s' m a no).2.2:=by
 unfold Go.Ar.getA;split
 ·exact⟨rfl,rfl,h,KS.refl _⟩
 ·unfold UG;rw[h.growStart];cases hg:Go.Ar.growStart s (Q1 (max m a))with
  | none=>exact⟨rfl,rfl,h,KS.refl _⟩
  | some x=>
   simp only;split
   ·exact⟨rfl,rfl,h.mapS _ _,Wi3 _ _ _⟩
   ·exact⟨rfl,rfl,h.mapS _ _,Wi3 _ _ _⟩
theorem Sim.growS (h:Sim s s')(A:AR)(k:Int):(growS A s' k).1=(growS A s k).1/\KH A s' k=KH A s k/\Sim (growS A s k).2 (growS A s' k).2/\KS s' (growS A s' k).2:=by
 unfold Go.Ar.growS KH;split
 ·split
  ·rename_i c ss _ _;obtain⟨h1,h2,h3,h4⟩:=h.getA A c.pages 1 (k.toNat+1);cases e1:Go.Ar.getA A s c.pages 1 (k.toNat+1)with
   | mk o1 r1=>cases e2:Go.Ar.getA A s' c.pages 1 (k.toNat+1)with
    | mk o2 r2=>
     obtain⟨a1,p1⟩:=r1;obtain⟨a2,p2⟩:=r2;rw[e1,e2]at h1 h2 h3;rw[e2]at h4;simp only at h1 h2 h3 h4;subst h1;subst h2;cases o2<;>exact⟨rfl,rfl,h3,h4⟩
  ·exact⟨rfl,rfl,h,KS.refl _⟩
 ·exact⟨rfl,rfl,h,KS.refl _⟩
theorem Sim.takeAS (h:Sim s s')(A:AR)(m a:Int):(takeAS A s' m a).1=(takeAS A s m a).1/\Qv A s' m a=Qv A s m a/\Z4 A s' m a=Z4 A s m a/\Sim (takeAS A s m a).2 (takeAS A s' m a).2/\KS s' (takeAS A s' m a).2:=by
 unfold Go.Ar.takeAS Qv Z4;split
 ·obtain⟨h1,h2,h3,h4⟩:=h.getA A m.toNat a.toNat 41;cases e1:Go.Ar.getA A s m.toNat a.toNat 41 with
  | mk o1 r1=>cases e2:Go.Ar.getA A s' m.toNat a.toNat 41 with
   | mk o2 r2=>
    obtain⟨a1,p1⟩:=r1;obtain⟨a2,p2⟩:=r2;rw[e1,e2]at h1 h2 h3;rw[e2]at h4;simp only at h1 h2 h3 h4;subst h1;subst h2;cases o2<;>exact⟨rfl,rfl,rfl,h3,h4⟩
 ·exact⟨rfl,rfl,rfl,h,KS.refl _⟩
theorem Wbd (s:Sp)(a m:Int)(v:Nat):(leaveS s a m v).st.length=s.st.length:=by
 unfold Go.Ar.leaveS;split
 ·simp[Sp.set,Qi]
 ·rfl
theorem Sim.relF:∀(rs:List (Nat×Nat)) {s s':Sp} (A:AR),Sim s s'->(rs.foldl rel1 (A,s')).1=(rs.foldl rel1 (A,s)).1/\Sim (rs.foldl rel1 (A,s)).2 (rs.foldl rel1 (A,s')).2/\(rs.foldl rel1 (A,s')).2.st.length=s'.st.length
 | [],s,s',A,h=>⟨rfl,h,rfl⟩
 | r::rs,s,s',A,h=>by
  rw[zAB,zAB];obtain⟨h1,h2,h3⟩:=Sim.relF rs (rel1 (A,s) r).1 (h.leaveS r.1 r.2 1);exact⟨h1,h2,h3.trans (Wbd _ _ _ _)⟩
theorem Sim.relS (h:Sim s s')(A:AR)(want:Int):(relS A s' want).1=(relS A s want).1/\Sim (relS A s want).2 (relS A s' want).2/\(relS A s' want).2.st.length=s'.st.length:=by
 unfold Go.Ar.relS;split
 ·exact⟨rfl,h,rfl⟩
 ·exact Sim.relF _ _ h
theorem Sim.trimF:∀(rs:List Nat) {s s':Sp} (A:AR),Sim s s'->(rs.foldl Ve (A,s')).1=(rs.foldl Ve (A,s)).1/\Sim (rs.foldl Ve (A,s)).2 (rs.foldl Ve (A,s')).2/\(rs.foldl Ve (A,s')).2.st.length=s'.st.length
 | [],s,s',A,h=>⟨rfl,h,rfl⟩
 | r::rs,s,s',A,h=>by
  rw[zAB,zAB];obtain⟨h1,h2,h3⟩:=Sim.trimF rs (Ve (A,s) r).1 (h.leaveS ((r*16:Nat):Int) 16 0);exact⟨h1,h2,h3.trans (Wbd _ _ _ _)⟩
theorem Sim.trimS (h:Sim s s')(A:AR):(trimS A s').1=(trimS A s).1/\Sim (trimS A s).2 (trimS A s').2/\(trimS A s').2.st.length=s'.st.length:=Sim.trimF _ _ h
variable {W:Wd}
theorem WmE (h:WI W){cl:Int}{l:List Int}(ho:ownW W.held k cl l=true)(c x:Int):Um (W.held.filter λp=>!isOf k cl l p) c x↔Um W.held c x/\¬(c=cl/\x∈l):=by
 constructor
 ·rintro⟨p,hp,h1,h2,h3⟩;obtain⟨hp',hn⟩:=zG.1 hp;refine⟨⟨p,hp',h1,h2,h3⟩,?_⟩;rintro⟨rfl,hx⟩;obtain⟨q,hq,hqx⟩:=(KA.1 ho).1 x hx;obtain⟨a1,a2,a3,a4⟩:=KB.1 hqx;obtain rfl:=h.same (p:=p) (q:=q) hp' hq (by omega);have:isOf k c l p=true:=Z2.2 ⟨a1,h2,by rw[h3];exact hx⟩;rw[this]at hn;cases hn
 ·rintro⟨⟨p,hp,h1,h2,h3⟩,hn⟩;refine⟨p,zG.2 ⟨hp,?_⟩,h1,h2,h3⟩;have:isOf k cl l p=false:=zBB.2 λhx=>by
   obtain⟨_,b2,b3⟩:=Z2.1 hx;exact hn ⟨h2.symm.trans b2,by rw[←h3];exact b3⟩
  rw[this];rfl
theorem WnV {held:List Pc}{cl:Int}{l:List Int}(ho:ownW held k cl l=true):∀x∈l,Um held cl x:=λx hx=>by
 obtain⟨q,hq,hqx⟩:=(KA.1 ho).1 x hx;obtain⟨a1,a2,a3,a4⟩:=KB.1 hqx;exact⟨q,hq,a4,a2,a3⟩
theorem WjI (h:WI W){cl:Int}{l:List Int}(ho:ownW W.held k cl l=true)(c x:Int):Um (Hx W.held k cl l true) c x↔Um W.held c x/\¬(c=cl/\x∈l):=by
 constructor
 ·rintro⟨p,hp,h1,h2,h3⟩;obtain⟨q,hq,rfl⟩:=QJ.1 hp;by_cases hof:isOf k cl l q=true
  ·rw[zB hof]at h1;cases h1
  ·rw[zA hof]at h1 h2 h3;refine⟨⟨q,hq,h1,h2,h3⟩,?_⟩;rintro⟨rfl,hx⟩;obtain⟨r,hr,hrx⟩:=(KA.1 ho).1 x hx;obtain⟨a1,a2,a3,a4⟩:=KB.1 hrx;obtain rfl:=h.same hq hr (by omega);exact hof (Z2.2 ⟨a1,h2,by rw[h3];exact hx⟩)
 ·rintro⟨⟨p,hp,h1,h2,h3⟩,hn⟩;refine⟨p,QJ.2 ⟨p,hp,?_⟩,h1,h2,h3⟩;rw[zA];intro hx;obtain⟨_,b2,b3⟩:=Z2.1 hx;exact hn ⟨h2.symm.trans b2,by rw[←h3];exact b3⟩
theorem WhO {held:List Pc}{cl:Int}{l:List Int}:∀p∈Hx held k cl l true,p.moved=false->p∈held:=λp hp hm=>by
 obtain⟨q,hq,rfl⟩:=QJ.1 hp;by_cases hof:isOf k cl l q=true
 ·rw[zB hof]at hm;cases hm
 ·rw[zA hof];exact hq
theorem WmQ (h:WI W)(hk:W.ars[k]?=some A){j:Nat}:(∀x∈YC A (j:Int),∀c,¬Um W.held c x)/\(YC A (j:Int)).Nodup/\(∀c x,Um (Hx W.held k j (YC A (j:Int)) false) c x↔Um W.held c x\/(c=j/\x∈YC A (j:Int))) ∧
 (∀p∈Hx W.held k j (YC A (j:Int)) false,p.moved=false->p∈W.held\/∀c,¬Um W.held c (p.addr:Int)):=by
 obtain⟨o,e1,e2,e3,e4,e5⟩:=Wda (h.ga k A hk) (j:Int);rw[iTn]at e2;have pc:∀x∈YC A (j:Int),∃q∈W.held,q.k=k/\q.cls=j/\(q.addr:Int)=x/\q.moved=true:=λx hx=>by
  have hin:=e2 x hx;obtain⟨t,ht,hxt⟩:=hin;have hjl:j<A.tb.length:=by rw[←(h.ga k A hk).lt];exact(gSi.1 ht).1
  obtain⟨c,ss,t',hc,ht'⟩:=(h.ga k A hk).cl hjl;have htk:TkA A j x:=(KM hc).2 ((h.ga k A hk).trt j c ss t hc ht x hxt);obtain⟨q,hq,q1,q2,q3⟩:=h.ht k A hk j x htk;obtain⟨_,_,_,_,h5⟩:=h.cls hq q2 (by rw[q1];exact hk);exact⟨q,hq,q1,q2,q3,h5.2 (by rw[q3];exact⟨t,ht,hxt⟩)⟩
 have new:∀x∈YC A (j:Int),∀c,¬Um W.held c x:=λx hx c hu=>by
  obtain⟨q,hq,_,_,q3,q4⟩:=pc x hx;have:=(h.um hq hu q3).1;rw[q4]at this;cases this
 refine⟨new,e3,λc x=>⟨?_,?_⟩,λp hp hm=>?_⟩
 ·rintro⟨p,hp,h1,h2,h3⟩;obtain⟨q,hq,rfl⟩:=QJ.1 hp;by_cases hof:isOf k (j:Int) (YC A (j:Int)) q=true
  ·rw[zB hof]at h2 h3;obtain⟨_,b2,b3⟩:=Z2.1 hof;exact .inr ⟨h2.symm.trans b2,by rw[←h3];exact b3⟩
  ·rw[zA hof]at h1 h2 h3;exact .inl ⟨q,hq,h1,h2,h3⟩
 ·rintro(⟨p,hp,h1,h2,h3⟩|⟨rfl,hx⟩)
  ·refine⟨p,QJ.2 ⟨p,hp,?_⟩,h1,h2,h3⟩;split
   ·rw[←h1]
   ·rfl
  ·obtain⟨q,hq,q1,q2,q3,q4⟩:=pc x hx;refine⟨{q with moved:=false},QJ.2 ⟨q,hq,?_⟩,rfl,q2,q3⟩;rw[zB (Z2.2 ⟨q1,q2,by rw[q3];exact hx⟩)]
 ·obtain⟨q,hq,rfl⟩:=QJ.1 hp;by_cases hof:isOf k (j:Int) (YC A (j:Int)) q=true
  ·rw[zB hof];exact .inr (new _ (Z2.1 hof).2.2)
  ·rw[zA hof];exact .inl hq
theorem Wiu {tb:List Cls}{ars:List AR}{sp:Sp}{held new:List Pc}(h:WI ⟨tb,sp,ars,held++new⟩):∀p∈new,∀c,¬Um held c (p.addr:Int):=by
 rintro p hp c ⟨q,hq,_,_,h3⟩;have e:=h.same (p:=p) (q:=q) (zBP _ hp) (zAW _ hq) (by omega);have hn:=h.hk;simp only[zAQ]at hn;rw[zBN]at hn;exact hn.2.2 q.key (zE.2 ⟨q,hq,rfl⟩) p.key (zE.2 ⟨p,hp,rfl⟩) (by rw[e])
theorem Wk4 {held new:List Pc}{cl:Int}{l:List Int}(h1:∀p∈new,p.moved=false/\p.cls=cl/\(p.addr:Int)∈l)(h2:∀x∈l,∃p∈new,(p.addr:Int)=x)(c x:Int):Um (held++new) c x↔Um held c x\/(c=cl/\x∈l):=by
 constructor
 ·rintro⟨p,hp,a1,a2,a3⟩;rcases zS.1 hp with hp|hp
  ·exact .inl ⟨p,hp,a1,a2,a3⟩
  ·obtain⟨_,b2,b3⟩:=h1 p hp;exact .inr ⟨a2.symm.trans b2,by rw[←a3];exact b3⟩
 ·rintro(⟨p,hp,a⟩|⟨rfl,hx⟩)
  ·exact⟨p,zAW _ hp,a⟩
  ·obtain⟨p,hp,e⟩:=h2 x hx;exact⟨p,zBP _ hp,(h1 p hp).1,(h1 p hp).2.1,e⟩
theorem WgN {tb:List Cls}{ars:List AR}{sp:Sp}{held new:List Pc}(h:WI ⟨tb,sp,ars,held++new⟩):∀p∈held++new,p.moved=false->p∈held\/∀c,¬Um held c (p.addr:Int):=λp hp _=>by
 rcases zS.1 hp with hp|hp
 ·exact .inl hp
 ·exact .inr (Wiu h p hp)
theorem WlX {held:List Pc}(us:List AR)(c x:Int):Um (Wf8 us held) c x↔Um held c x:=by
 unfold Wf8;constructor
 ·rintro⟨p,hp,h⟩;exact⟨p,(zG.1 hp).1,h⟩
 ·rintro⟨p,hp,h1,h⟩;exact⟨p,zG.2 ⟨hp,by rw[h1];rfl⟩,h1,h⟩
theorem KO {ss:List SpA}:∀{i:Nat},Zg ss i=none->∀k,k<i->∀s,ss[k]?=some s->¬s.many<s.tk.length
 | 0,_,k,hk,_,_=>by omega
 | i+1,h,k,hk,s,hs=>by
  unfold Zg at h;by_cases hki:k=i
  ·subst hki;rw[hs]at h;simp only at h;intro hlt;rw[zB hlt]at h;split at h
   ·split at h
    ·split at h<;>cases h
    ·cases h
   ·cases h
  ·cases hi:ss[i]? with
   | none=>
    rw[hi]at h;exact KO h k (by omega) s hs
   | some x=>
    rw[hi]at h;simp only at h;split at h
    ·split at h
     ·split at h
      ·split at h<;>cases h
      ·cases h
     ·exact KO (by assumption) k (by omega) s hs
    ·exact KO h k (by omega) s hs
theorem WgW (h:GA A)(hw:Ow A sp){j:Nat}(hE:KH A sp (j:Int)=0){w:Nat}(h1:1<=w):Yl (growS A sp (j:Int)).1 (j:Int) (w:Int)≠[]:=by
 rcases WaH h hw (j:Int)with⟨_,hn⟩|⟨j',c,ss,x,A1,sp1,hj,hk,hk1,_,e,hst,r1,r2,r3,_,hd,hS⟩
 ·exact(hn hE).elim
 ·obtain rfl:j=j':=by omega
  have hcl:Cl (growS A sp (j:Int)).1 j c (addS c ss x):=by
   rw[e];have hk2:Cl (useA A1 x c.pages (j+1)) j c ss:=hk1;exact UQ hk2 _
  have hC:=hS.ga.cen j c _ hcl;have hmem:(⟨x,List.replicate c.n false⟩:SpA)∈addS c ss x:=Vt.2 (.inl rfl);have hck:(growS A sp (j:Int)).1.ck (j:Int)=true:=U9.2 ⟨j,rfl,hcl.lt⟩;unfold Yl QA Vs;rw[hck,zB rfl,zA (show ¬((w:Int)<0) by omega),zB rfl,iTn,iTn,hcl.1,hcl.2];simp only;obtain⟨w,rfl⟩:∃v,w=v+1:=⟨w-1,by omega⟩;cases ho:oneS c (addS c ss x)with
  | some r=>
   obtain⟨y,ss'⟩:=r;rw[HZ ho];simp
  | none=>
   exfalso;unfold oneS best at ho;obtain⟨l,hl⟩:=zM hmem;have hll:=(gSi.1 hl).1;have hlt:(⟨x,List.replicate c.n false⟩:SpA).many<(⟨x,List.replicate c.n false⟩:SpA).tk.length:=by
    have:=hC.ok.n_pos;simp[SpA.many,zFB];omega
   cases hb:Zg (addS c ss x) (addS c ss x).length with
   | none=>exact KO hb l hll _ hl hlt
   | some i=>
    rw[hb]at ho;obtain⟨_,s,hs,hsm⟩:=QR hb;obtain⟨r,hr,_⟩:=GK hsm;simp only[hs,hr]at ho;cases ho
end Go.Ar