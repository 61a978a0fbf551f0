/- Texts joined. -/
import Derived.Deep.Slices
import Derived.Deep.Fields
import Derived.ChangeSame
import Derived.Lib.SmallJoins
import Derived.Below
import Derived.Test.YteihenagckcobaaGreatDoorProg
import Derived.KernelRfl
import Derived.RangeFuncLeaves
import Derived.RangeFuncRecord
import Derived.RangeFuncSeq
import Derived.RangeFuncCalls
import Derived.OrdersIn
import Derived.TacticsIn
import Derived.RangeFuncIn
import Derived.Shelf.SlIterI.Nil
import Derived.Shelf.SortM.Plain
import Derived.Shelf.SortM.SortNone
import Derived.Ground.GgzProg
import Derived.Ground.SlgmProg
import Derived.Shelf.SlMaps.Clone
import Derived.Ground.SlmcProg
import Derived.Test.YteihenagckcobaaGreatDoorY1
set_option linter.unusedVariables false
set_option linter.unusedSimpArgs false
namespace Go.Vc
open Go
abbrev Rg:=Nat->Prop
def dM (P:Hp->Rg->Prop):Prop:=∀U σ' (F G:Rg),P U F->U.size<=σ'.size->(∀b,b<U.size->F b->G b/\σ'[b]?=U[b]?)->P σ' G
def Grow (F:Rg)(U:Hp):Rg:=λb=>F b\/U.size<=b
theorem dM.mono {P:Hp->Rg->Prop}(hl:dM P){U:Hp}{F G:Rg}(h:P U F)(hs:∀b,b<U.size->F b->G b):P U G:=hl U U F G h (zD _) λb d a=>⟨hs b d a,rfl⟩
theorem dM.bR {P:Hp->Rg->Prop}(hl:dM P){U σ':Hp}{F T:Rg}(h:P U F)(e:Ext T U σ')(hn:∀b,b<U.size->F b->¬T b):P σ' F:=
 hl U σ' F F h e.1 λb d a=>⟨a,e.2 b d (hn b d a)⟩
theorem dM.bO {P:Hp->Rg->Prop}(hl:dM P){U σ':Hp}{F:Rg}(h:P U F)(e:bK U σ'):P σ' F:=hl.bR h e λ_ _ _=>id
def Sep {L:Type}(C:L->Hp->Rg->Prop)(U:Hp)(F:Rg):Prop:=∃ρ:Nat->L,∀i,C i U λb=>F b/\ρ b=i
variable {L:Type}{C:L->Hp->Rg->Prop}{U σ':Hp}{F:Rg}
theorem Sep.loc (hC:∀i,dM (C i)):dM (Sep C):=by
 rintro U j F G ⟨ρ,h⟩ g d;exact⟨ρ,λi=>hC i _ _ _ _ (h i) g λb e a=>⟨⟨(d b e a.1).1,a.2⟩,(d b e a.1).2⟩⟩
theorem Sep.get (h:Sep C U F)(i:L):∃G:Rg,(∀b,G b->F b)/\C i U G:=by
 obtain⟨ρ,h⟩:=h;exact⟨_,λb a=>a.1,h i⟩
open Classical in
theorem Sep.step (hC:∀i,dM (C i))(h:Sep C U F)(i:L):∃G:Rg,(∀b,G b->F b)/\C i U G/\∀(σ':Hp) (C':L->Hp->Rg->Prop) (G':Rg),
 (∀j,j≠i->C' j=C j)->Ext G U σ'->(∀b,G' b->G b\/U.size<=b)->C' i σ' G'->dM (C' i)->Sep C' σ' λb=>F b/\b<U.size/\¬G b\/G' b:=by
 obtain⟨ρ,h⟩:=h;refine⟨_,λb a=>a.1,h i,λσ' C' G' u e r s w=>⟨λb=>if G' b then i else ρ b,λj=>?_⟩⟩
 by_cases hji:j=i
 ·subst hji;exact w.mono s λb _ a=>⟨.inr a,zC a⟩
 ·rw[u j hji];refine hC j _ _ _ _ (h j) e.1 λb a p=>?_;have d:¬(F b/\ρ b=i):=λm=>hji (p.2.symm.trans m.2);have g:¬G' b:=λm=>by
   rcases r b m with h1|h1
   ·exact d h1
   ·omega
  exact⟨⟨.inl ⟨p.1,a,d⟩,(zB g).trans p.2⟩,e.2 b a d⟩
open Classical in
theorem Sep.oc (hC:∀i,dM (C i))(h:Sep C U F)(i j:L)(hij:i≠j):∃G H:Rg,(∀b,G b->F b)/\(∀b,H b->F b)/\(∀b,G b->¬H b)/\C i U G/\C j U H/\∀(σ':Hp) (C':L->Hp->Rg->Prop) (G' H':Rg),
 (∀k,k≠i->k≠j->C' k=C k)->Ext (λb=>G b\/H b) U σ'->(∀b,G' b->(G b\/H b)\/U.size<=b)->(∀b,H' b->(G b\/H b)\/U.size<=b)->(∀b,G' b->¬H' b)->C' i σ' G'->C' j σ' H'->(∀k,dM (C' k)) →
 Sep C' σ' λb=>F b/\b<U.size/\¬(G b\/H b)\/G' b\/H' b:=by
 obtain⟨ρ,h⟩:=h;refine⟨_,_,λb a=>a.1,λb a=>a.1,λb g w=>hij (g.2.symm.trans w.2),h i,h j,λσ' C' G' H' B e A y hd z x u=>⟨λb=>if G' b then i else if H' b then j else ρ b,λk=>?_⟩⟩
 by_cases hki:k=i
 ·subst hki;exact(u _).mono z λb _ a=>⟨.inr (.inl a),zC a⟩
 by_cases hkj:k=j
 ·subst hkj;exact(u _).mono x λb _ a=>⟨.inr (.inr a),by show(if G' b then i else if H' b then k else ρ b)=k;rw[zB λd=>hd b d a,zC a]⟩
 ·rw[B k hki hkj];refine hC k _ _ _ _ (h k) e.1 λb a r=>?_;have s:¬((F b/\ρ b=i)\/F b/\ρ b=j):=by
   rintro(d|d)
   ·exact hki (r.2.symm.trans d.2)
   ·exact hkj (r.2.symm.trans d.2)
  have m:¬G' b:=λd=>by
   rcases A b d with g|g
   ·exact s g
   ·omega
  have p:¬H' b:=λd=>by
   rcases y b d with g|g
   ·exact s g
   ·omega
  exact⟨⟨.inl ⟨r.1,a,s⟩,by show(if G' b then i else if H' b then j else ρ b)=k;rw[zB m,zB p];exact r.2⟩,e.2 b a s⟩
def iq (p:Nat)(cs:List Value):Hp->Rg->Prop:=λU F=>F p/\bY U p cs
theorem iq.loc (p:Nat)(cs:List Value):dM (iq p cs):=λU g F G h d a=>by
 obtain⟨e,b⟩:=h.2;have:=a p h.2.lt h.1;exact⟨this.1,e,this.2.trans b⟩
def jA (r:Nat)(k:IntKind)(c:CK)(l:List (Int×c.T)):Hp->Rg->Prop:=λU F=>F r/\dL U r k c l
theorem jA.loc (r:Nat)(k:IntKind)(c:CK)(l:List (Int×c.T)):dM (jA r k c l):=λU j F G h i g=>by
 have:=g r h.2.lt h.1;obtain⟨d,b,e,a⟩:=h.2;exact⟨this.1,d,b,this.2.trans e,a⟩
def xl:Hp->Rg->Prop:=λ_ _=>True
theorem xl.loc:dM xl:=λ_ _ _ _ _ _ _=>trivial
def uZ (s:Sl)(sz:Nat)(xs:List Value):Hp->Rg->Prop:=λU F=>Own F U s sz xs
theorem uZ.loc (s:Sl)(sz:Nat)(xs:List Value):dM (uZ s sz xs):=λU g F G h d a=>by
 refine⟨h.1,h.2.imp id ?_⟩;rintro⟨b,cs,hq,ha,⟨e,he⟩,r⟩;have:=a b (bY.lt ⟨e,he⟩) hq;exact⟨b,cs,this.1,ha,⟨e,this.2.trans he⟩,r⟩
def bS (s:Sl)(sz:Nat)(xs:List Value):Hp->Rg->Prop:=λh F=>xs.length=s.len*sz/\(s.len=0/\s.cap=0\/∃b cs,F b/\s.a=some ⟨b,0,none⟩/\bY h b cs/\s.len<=s.cap/\cs.length=s.cap*sz/\cs.take xs.length=xs)
theorem bS.loc (s:Sl)(sz:Nat)(xs:List Value):dM (bS s sz xs):=λU g F G h d a=>by
 refine⟨h.1,h.2.imp id ?_⟩;rintro⟨b,cs,hq,ha,⟨e,he⟩,r⟩;have:=a b (bY.lt ⟨e,he⟩) hq;exact⟨b,cs,this.1,ha,⟨e,this.2.trans he⟩,r⟩
theorem _root_.aI{s n xs}:dM (bS s n xs):=bS.loc _ _ _
theorem bS.nil (h:Hp)(F:Rg)(sz:Nat)(a:Option Addr):bS ⟨a,0,0⟩ sz [] h F:=⟨by simp,.inl ⟨rfl,rfl⟩⟩
theorem bS.rd {h:Hp}{F:Rg}{s:Sl}{sz:Nat}{xs:List Value}(ho:bS s sz xs h F):Rd h s.a xs:=by
 rcases ho.2 with⟨hl,_⟩|⟨b,cs,_,ha,hb,_,_,ht⟩
 ·have:=ho.1;rw[hl]at this;simp at this;subst this;cases s.a<;>simp[Rd]
 ·rw[ha];intro j v hv;rw[add_lit,hb.cell,zH];rw[←ht,zj]at hv;split at hv
  ·exact hv
  ·cases hv
theorem bS.app {F:Rg}{h:Hp}{s x:Sl}{sz bytes e:Nat}{zs xs ys:List Value}{K:Sl->Hp->Prop}(ho:bS s sz xs h F)(hz:zs.length=sz)
 (hy:ys.length=x.len*sz) (hr:Rd h x.a ys) (h1:∀v∈ys,dQ v=true) (hb:(s.len+x.len)*bytes<=2^46) (hc:s.len+x.len<=2^62)
 (hx:0<x.len) (hK:∀s' h',s'.len=s.len+x.len->Ext F h h'->bS s' sz (xs++ys) h' (Grow F h)->K s' h'):App s sz bytes e zs x h K:=by
 refine⟨xs,ys,ho.1,hy,ho.rd,hr,h1,hb,hc,λg=>?_,λp c j=>?_⟩
 ·rcases ho.2 with⟨hl,hcap⟩|⟨b,cs,hQ,ha,hk,hle,hcl,ht⟩
  ·omega
  ·rw[ha];simp only;rw[add_lit];have r:(s.len+x.len)*sz<=s.cap*sz:=lS _ g;rw[zm]at r;have d:=ho.1;refine VF hk O λh' m i=>hK _ h' rfl (Ext.eM m hQ) ⟨?_,.inr ⟨b,_,.inl hQ,rfl,i,g,?_,?_⟩⟩
   ·simp[d,hy,zm]
   ·simp;omega
   ·rw[zP,d];rw[zH,jY,←d];rw[ht,nX aA,mN aA]
 ·refine hK _ _ rfl (Ext.push _ _ _) ⟨by simp[ho.1,hy,zm],.inr ⟨h.size,xs++ys++(List.replicate (c-(s.len+x.len)) zs).flatten,.inr (zD _),rfl,⟨e,by simp⟩,j,?_,?_⟩⟩
  ·simp only[zP,wh,uh,vR,ho.1,hy,hz,←zm]
   congr 1;omega
  ·rw[nX aA,mN aA]
theorem bS.st {F:Rg}{h:Hp}{s:Sl}{sz:Nat}{xs:List Value}(ho:bS s sz xs h F){j:Nat}(hj:j<xs.length){v:Value}{K:aP}{a:Addr}(ha:∀b,s.a=some ⟨b,0,none⟩->a=⟨b,j,none⟩)
 (hK:∀h',Ext F h h'->bS s sz (xs.set j v) h' F->K h'):dX a v h K:=by
 rcases ho.2 with⟨hl,_⟩|⟨b,cs,hq,hsa,hb,hle,hcl,ht⟩
 ·have:=ho.1;rw[hl]at this;simp at this;subst this;simp at hj
 ·rw[ha b hsa];have d:j<cs.length:=by
   have:(cs.take xs.length).length=xs.length:=by rw[ht]
   rw[zZ]at this;omega
  refine⟨by rw[hb.cell,cV d];rfl,hb.nf,hK _ (Ext.jQ (F:=F) hq) ⟨by simp[ho.1],.inr ⟨b,_,hq,hsa,hb.set v,hle,by simp[hcl],?_⟩⟩⟩;rw[nK,List.take_set,ht]
def cX (s:Sl)(sz:Nat)(xs:List Value):Hp->Rg->Prop:=λU F=>xs.length=s.len*sz/\(xs=[]\/∃b o cs,F b/\s.a=some ⟨b,o,none⟩/\l4 U b cs/\∀j,j<xs.length->cs[o+j]?=xs[j]?)
theorem cX.loc (s:Sl)(sz:Nat)(xs:List Value):dM (cX s sz xs):=λU g F G h d a=>by
 refine⟨h.1,h.2.imp id ?_⟩;rintro⟨b,o,cs,hq,ha,⟨e,z,he⟩,r⟩;have:=a b (l4.lt ⟨e,z,he⟩) hq;exact⟨b,o,cs,this.1,ha,⟨e,z,this.2.trans he⟩,r⟩
theorem _root_.aH{s n xs}:dM (cX s n xs):=cX.loc _ _ _
theorem bS.gY {Q:Rg}{h:Hp}{s:Sl}{sz:Nat}{xs:List Value}(ho:bS s sz xs h Q):cX s sz xs h Q:=by
 refine⟨ho.1,?_⟩;rcases ho.2 with⟨hl,_⟩|⟨b,cs,hq,ha,hb,_,_,ht⟩
 ·left;have:=ho.1;rw[hl]at this;simpa using this
 ·refine .inr ⟨b,0,cs,hq,ha,hb.q,λj a=>?_⟩;rw[←ht,zj,zH,zC a]
theorem cX.cell {s:Sl}{sz:Nat}{xs:List Value}(h:cX s sz xs U F){j:Nat}{v:Value}(hv:xs[j]?=some v):∃b o,s.a=some ⟨b,o,none⟩/\Vc.cell U ⟨b,o+j,none⟩=some v:=by
 have d:=(cW.1 hv).1;rcases h.2 with h0|⟨b,o,cs,_,ha,hb,hc⟩
 ·subst h0;simp at d
 ·exact⟨b,o,ha,by rw[hb.cell,hc j d];exact hv⟩
theorem cX.nr {s:Sl}{k:IntKind}{xs:List Int}(h:cX s 1 (xs.map (Value.int k)) U F){i:Nat}{x:Int}(hx:xs[i]?=some x){K:Int->Prop}(hK:K x):Ix s.a s.len (i:Int) 1 λa=>gA k a U K:=by
 have m:=(cW.1 hx).1;obtain⟨b,o,e,g⟩:=h.cell (j:=i) (v:=.int k x) (by simp[hx]);have d:=h.1;simp at d;rw[e];refine ix O O ?_;rw[add_lit];exact ns (by simpa using g) hK
theorem cX.rd {s:Sl}{sz:Nat}{xs:List Value}(h:cX s sz xs U F):Rd U s.a xs:=by
 cases ha:s.a with
 | none=>
  rcases h.2 with h0|⟨b,o,cs,_,d,_⟩
  ·exact h0
  ·rw[ha]at d;cases d
 | some a=>
  intro j v hv;obtain⟨b,o,d,e⟩:=h.cell hv;rw[ha]at d;cases d;rw[add_lit];exact e
end Go.Vc
namespace Go.Vc
open Go Go.ChangeShapes Go.WideShapes Go.Deep Go.RowKit
def Jv (U:Hp):Bool->Hp->Prop:=λb σ'=>b=true/\bK U σ'
theorem F2 {P:Program}{f:Nat}{args:Array Value}{w:World}(h:Wc P f args [.one .b] w.heap (Jv w.heap)):Calls P f args w λe w'=>e=.returned (.bool true)/\Below w.heap.size w w':=by
 refine(h w rfl).mono ?_;rintro e w' ⟨a,vs,rfl,d⟩
 match vs,d with
 | [v],d=>
  obtain⟨x,rfl,m,j⟩:=d;have g:x=true:=m;subst g;exact⟨rfl,⟨a.1,a.2.1,a.2.2.1,a.2.2.2,λk i=>j.2 k i id⟩⟩
def ic (h:Hp)(l:Sl)(xs:List (Int×Int×Int)):Prop:=l.len=xs.length/\∀i x y z,xs[i]?=some (x,y,z)->∃b o,l.a=some ⟨b,o,none⟩/\b<h.size ∧
 cell h ⟨b,o+i*3,none⟩=some (.int .i64 x)/\cell h ⟨b,o+i*3+1,none⟩=some (.int .i64 y)/\cell h ⟨b,o+i*3+2,none⟩=some (.int .i64 z)
theorem Du {h:Hp}{a:Addr}{v:Value}(hc:cell h a=some v):a.block<h.size/\a.spot=none:=by
 unfold cell at hc;split at hc
 ·rename_i heq;refine⟨(j3.1 heq).1,?_⟩;cases hs:a.spot with
  | none=>rfl
  | some s=>rw[hs]at hc;simp at hc
 ·cases hc
end Go.Vc
namespace Go.Vc
open Go
theorem fC {k:IntKind}{b o i:Nat}{h:Hp}{x:Int}{K:Int->Prop}(hc:cell h ⟨b,o+i,none⟩=some (.int k x))(hK:K x):gA k (Addr.add ⟨b,o,none⟩ i) h K:=by
 rw[add_lit];exact ns hc hK
theorem cP {e:Int}{m:Nat}{K:Int->Prop}(he:e=(m:Int))(hm:m<=4611686018427387904)(hK:K (m:Int)):Ar .i64 e K:=by
 rw[he];exact ar O O hK
theorem Dt {k:Nat}(h:k<=62):min ((k:Int).toNat) IntKind.i64.bits=k:=by
 have:IntKind.i64.bits=64:=rfl;rw[this];omega
theorem xp {k:IntKind}{e:Int}{K:Int->Prop}(hK:K (k.wrap e)):Ar k e K:=hK
variable {U:Hp}{b o i j:Nat}{cs:List Value}
theorem bY.rI (hb:bY U b cs){k:IntKind}{x:Int}{K:Int->Prop}(hc:cs[o+i]?=some (.int k x))(hK:K x):gA k (Addr.add ⟨b,o,none⟩ i) U K:=by
 rw[add_lit];exact ns (hb.cell.trans hc) hK
theorem bY.rB (hb:bY U b cs){x:Bool}{K:Bool->Prop}(hc:cs[o+i]?=some (.bool x))(hK:K x):lg (Addr.add ⟨b,o,none⟩ i) U K:=by
 rw[add_lit];exact mY (hb.cell.trans hc) hK
theorem bY.rP (hb:bY U b cs){x:Option Addr}{K:Option Addr->Prop}(hc:cs[o+i]?=some (.pointer x))(hK:K x):fU (Addr.add ⟨b,o,none⟩ i) U K:=by
 rw[add_lit];exact uz (hb.cell.trans hc) hK
theorem bY.rM (hb:bY U b cs){x:Option Nat}{K:Option Nat->Prop}(hc:cs[o+i]?=some (.map x))(hK:K x):kZ (Addr.add ⟨b,o,none⟩ i) U K:=by
 rw[add_lit];exact D6 (hb.cell.trans hc) hK
theorem bY.rS (hb:bY U b cs){a:Option Addr}{n c:Nat}{K:Sl->Prop}(hc:cs[o+i]?=some (.slice a n c))(hK:K ⟨a,n,c⟩):jq (Addr.add ⟨b,o,none⟩ i) U K:=by
 rw[add_lit];exact nq (hb.cell.trans hc) hK
theorem bY.eZ (hb:bY U b cs){k:IntKind}{x:Int}{K:Int->Prop}(hc:cs[o+i+j]?=some (.int k x))(hK:K x):gA k (Addr.add (Addr.add ⟨b,o,none⟩ i) j) U K:=by
 rw[add_lit,add_lit];exact ns (hb.cell.trans hc) hK
theorem bY.ud (hb:bY U b cs){k:IntKind}{x:Int}{K:Int->Prop}(hc:cs[o]?=some (.int k x))(hK:K x):gA k ⟨b,o,none⟩ U K:=ns (hb.cell.trans hc) hK
theorem bY.qP (hb:bY U b cs){x:Option Addr}{K:Option Addr->Prop}(hc:cs[o]?=some (.pointer x))(hK:K x):fU ⟨b,o,none⟩ U K:=uz (hb.cell.trans hc) hK
theorem bY.tx (hb:bY U b cs){a:Option Addr}{n c:Nat}{K:Sl->Prop}(hc:cs[o]?=some (.slice a n c))(hK:K ⟨a,n,c⟩):jq ⟨b,o,none⟩ U K:=nq (hb.cell.trans hc) hK
theorem bY.s1 (hb:bY U b cs){v:Value}(ho:o+i<cs.length){K:aP}(hK:∀h',Qk U h' b->bY h' b (cs.set (o+i) v)->K h'):dX (Addr.add ⟨b,o,none⟩ i) v U K:=by
 rw[add_lit];refine⟨?_,hb.nf,hK _ ⟨KV _ _ _,λc a=>Vv a⟩ (hb.set v)⟩;rw[hb.cell,cV ho];rfl
theorem bY.s0 (hb:bY U b cs){v:Value}(ho:o<cs.length){K:aP}(hK:∀h',Qk U h' b->bY h' b (cs.set o v)->K h'):dX ⟨b,o,none⟩ v U K:=by
 refine⟨?_,hb.nf,hK _ ⟨KV _ _ _,λc a=>Vv a⟩ (hb.set v)⟩;rw[hb.cell,cV ho];rfl
theorem nw {e:Nat}{K:Addr->Hp->Prop}(hK:∀h',h'.size=U.size+1->bK U h'->bY h' U.size cs->K ⟨U.size,0,none⟩ h'):Nw (.cells cs.toArray e (0,0)) U K:=
 hK _ aA (Ext.push _ _ _) (bY.push _ _ _)
theorem r7 {K:Addr->Hp->Prop}(hK:∀h',h'.size=U.size+1->bK U h'->(∀(k:IntKind) (c:CK),dL h' U.size k c [])->K ⟨U.size,0,none⟩ h'):Nw (.map #[] 0) U K:=
 hK _ aA (Ext.push _ _ _) λk c=>dL.push _ _ _
theorem mk {n bytes e:Nat}{zs:List Value}{K:Sl->Hp->Prop}(h1:bytes*n<=1073741824)(h2:n<=1073741824)
 (hK:∀h',h'.size=U.size+1->bK U h'->bY h' U.size (List.replicate n zs).flatten->K ⟨some ⟨U.size,0,none⟩,n,n⟩ h'):Mk (n:Int) (n:Int) bytes e zs U K:=by
 refine⟨O,uI _,?_,O,?_⟩
 ·have:((bytes:Int)*(n:Int))=((bytes*n:Nat):Int):=by simp
  rw[this];omega
 ·simp only[dE];exact nw hK
theorem iU {s:Sl}{sz lo hi mx:Nat}{K:Sl->Prop}(h1:lo<=hi)(h2:hi<=mx)(h3:mx<=s.cap)(hK:K ⟨if mx=lo then s.a else s.a.map (·.add (lo*sz)),hi-lo,mx-lo⟩):eY s sz (lo:Int) (hi:Int) (mx:Int) K:=
 ⟨O,O,O,O,by simpa using hK⟩
theorem k5 (a b:Nat):(((a:Nat):Int)==((b:Nat):Int))=(a==b):=by rw[lO];simp;omega
theorem pI (a b:Nat):(((a:Nat):Int) != ((b:Nat):Int))=(a != b):=by rw[bne,bne,k5]
theorem uT (a:Nat):(((a:Nat):Int)==0)=(a==0):=k5 a 0
theorem LI (a:Nat):(((a:Nat):Int) != 0)=(a != 0):=pI a 0
def ints (l:List Nat):List Value:=l.map λ(x:Nat)=>Value.int .i64 (x:Int)
theorem QB (l:List Nat):(ints l).length=l.length:=by simp[ints]
theorem IZ {l:List Nat}{i x:Nat}(h:l[i]?=some x):(ints l)[i]?=some (.int .i64 (x:Int)):=by simp[ints,h]
theorem UD (l m:List Nat):ints (l++m)=ints l++ints m:=by simp[ints]
theorem cX.rG {s:Sl}{F:Rg}{xs:List Nat}(h:cX s 1 (ints xs) U F){i x:Nat}(hx:xs[i]?=some x){K:Int->Prop}(hK:K (x:Int)):Ix s.a s.len (i:Int) 1 λa=>gA .i64 a U K:=by
 have j:=(cW.1 hx).1;obtain⟨b,o,e,g⟩:=h.cell (IZ hx);have d:=h.1;rw[QB]at d;rw[e];refine ix O O ?_;rw[add_lit];exact ns (by simpa using g) hK
theorem cX.oJ {s:Sl}{F:Rg}{xs:List Nat}(h:cX s 1 (ints xs) U F):s.len=xs.length:=by
 have:=h.1;rw[QB]at this;omega
theorem cX.nil (F:Rg)(a:Option Addr)(c sz:Nat):cX ⟨a,0,c⟩ sz [] U F:=⟨by simp,.inl rfl⟩
theorem bY.gY {s:Sl}{sz:Nat}{xs:List Value}(hb:bY U b cs)(ha:s.a=some ⟨b,o,none⟩)(hl:xs.length=s.len*sz)(hc:∀j,j<xs.length->cs[o+j]?=xs[j]?):cX s sz xs U (· = b):=
 ⟨hl,.inr ⟨b,o,cs,rfl,ha,hb.q,hc⟩⟩
theorem cX.any {s:Sl}{sz:Nat}{xs:List Value}{F:Rg}(h:cX s sz xs U F):cX s sz xs U λ_=>True:=(cX.loc s sz xs).mono h λ_ _ _=>trivial
theorem Jx {a xa:Option Addr}{xc sz bytes e:Nat}{zs:List Value}{K:Sl->Hp->Prop}(hK:K ⟨a,0,0⟩ U):App ⟨a,0,0⟩ sz bytes e zs ⟨xa,0,xc⟩ U K:=by
 refine⟨[],[],by simp,by simp,by cases a<;>simp[Rd],by cases xa<;>simp[Rd],by simp,by simp,by simp,λ_=>?_,λh=>absurd (zD 0) h⟩
 cases a
 ·exact hK
 ·exact hK
theorem bS.push {F:Rg}{s:Sl}{sz bytes e t:Nat}{zs xs vs:List Value}{K:Sl->Hp->Prop}(ho:bS s sz xs U F)(hF:∀b,U.size<=b->F b)(hz:zs.length=sz)(hv:vs.length=sz)(h1:∀v∈vs,dQ v=true)
 (hb:bytes<=1000) (hl:s.len<=1000000) (hK:∀s' h',s'.len=s.len+1->Ext F U h'->bS s' sz (xs++vs) h' F->K s' h') :
 Nw (.cells vs.toArray t (0,0)) U λn v=>App s sz bytes e zs ⟨some n,1,1⟩ v K:=by
 refine nw λv r e1 a=>?_;have i:=(bS.loc s sz xs).bO ho e1;refine i.app (ys:=vs) hz (by simp[hv]) ?_ h1 ?_ ?_ mG λs' h' d p g=>hK s' h' d (e1.to.trans p) ?_
 ·intro j u hu;rw[add_lit,zH,a.cell];exact hu
 ·simp only;have:(s.len+1)*bytes<=1000001*1000:=lR O hb;omega
 ·simp only;omega
 ·exact aI.mono g λb _ m=>by
   rcases m with h|h
   ·exact h
   ·exact hF b O
theorem bS.oJ {F:Rg}{s:Sl}{xs:List Nat}(h:bS s 1 (ints xs) U F):s.len=xs.length:=by
 have:=h.1;rw[QB]at this;omega
theorem Dk {F:Rg}{s:Sl}{sz bytes e:Nat}{zs vs:List Value}{R:Sl->Hp->Prop}(h:cX s sz vs U F)(hpos:0<sz)(hz:zs.length=sz)(h1:∀v∈vs,dQ v=true)(hb:bytes<=1000)(hl:s.len<=1000000)
 (hR:∀s' σ',s'.len=s.len->bK U σ'->bS s' sz vs σ' (λb=>U.size<=b)->R s' σ') :
 If s.a.isNone (R ⟨none,0,0⟩ U) (Nw (.cells #[] e (0,0)) U λn v=>App ⟨some n,0,0⟩ sz bytes e zs s v λt v1=>R t v1):=by
 have d:=h.1;refine cO (λp=>?_) λp=>?_
 ·have B:vs=[]:=by
   rcases h.2 with g|⟨b,o,cs,_,ha,_⟩
   ·exact g
   ·rw[ha]at p;cases p
  subst B;have g:s.len=0:=by
   have r:s.len*sz=0:=by simpa using d.symm
   rcases ur.1 r with h|h
   ·exact h
   ·omega
  exact hR _ _ (by simp[g]) (Ext.refl _ _) (bS.nil _ _ _ _)
 ·refine nw (cs:=[]) λv y e1 z=>?_;have C:=(cX.loc s sz vs).bO h e1;rcases BI s.len with g|g
  ·obtain⟨a,n,c⟩:=s;simp only at g;subst g;have:vs=[]:=by simpa using d
   subst this;exact Jx (hR _ _ rfl e1 (bS.nil _ _ _ _))
  ·refine(bS.nil v (λb=>U.size<=b) sz (some ⟨U.size,0,none⟩)).app (ys:=vs) hz d C.rd h1 ?_ ?_ g λs' u m x j=>hR s' u (by simpa using m) ?_ ?_
   ·simp only[zH];have:s.len*bytes<=1000000*1000:=lR hl hb;omega
   ·simp only;omega
   ·exact Ext.fresh e1 x λi w=>w
   ·rw[sA]at j;exact aI.mono j λb _ A=>by
     rcases A with h|h
     ·exact h
     ·omega
def Cut (F:Rg)(U:Hp):Rg:=λb=>F b/\b<U.size
theorem dM.cut {P:Hp->Rg->Prop}(hl:dM P){F:Rg}(h:P U F):P U (Cut F U):=hl.mono h λb d a=>⟨a,d⟩
theorem Ext.cut {F:Rg}{σ':Hp}(e:Ext (Cut F U) U σ'):Ext F U σ':=⟨e.1,λb d a=>e.2 b d λg=>a g.1⟩
theorem Ext.sub {F G:Rg}{a b:Hp}(e:Ext F a b)(h:∀i,F i->G i):Ext G a b:=e.mono λi _ d=>h i d
theorem Qk.ext {h h':Hp}{r:Nat}(ho:Qk h h' r):Ext (· = r) h h':=Ext.eM ho rfl
theorem Ext.jl {F:Rg}{a b c:Hp}(e:Ext F a b)(k:Ext (Grow F a) b c):Ext F a c:=
 ⟨ze e.1 k.1,λi g d=>(k.2 i (tJ g e.1) λj=>by rcases j with h|h;exact d h;omega).trans (e.2 i g d)⟩
theorem Ext.dV {F G:Rg}{a b c:Hp}(e:Ext F a b)(k:Ext G b c)(h:∀i,G i->F i\/a.size<=i):Ext F a c:=e.jl (k.sub h)
theorem pd {P:Program}{f:Nat}{first caps:Array Value}{args:List Value}{all:Array Value}{rs:List SK}{R:eR (eT rs)}(hok:VI P f=true)(he:first++args.toArray++caps=all)
 (hc:Wc P f all rs U R):VH P ⟨f,first,caps⟩ args rs U R:=⟨hok,by unfold D3;simp only;rw[he];exact hc⟩
theorem Q3 {h h':Hp}{F:Nat->Prop}(e:Ext F h h'){b o:Nat}(hb:b<h.size)(hF:¬F b):cell h' ⟨b,o,none⟩=cell h ⟨b,o,none⟩:=by
 unfold cell;rw[e.2 b hb hF]
theorem M6 {h h':Hp}{l:Sl}{xs:List (Int×Int×Int)}{F:Nat->Prop}(ha:ic h l xs)(e:Ext F h h')(hF:∀b,F b->∀o,l.a≠some ⟨b,o,none⟩):ic h' l xs:=by
 refine⟨ha.1,λi x y z m=>?_⟩;obtain⟨b,o,j,d,s,p,u⟩:=ha.2 i x y z m;have g:¬F b:=λr=>hF b r o j;exact⟨b,o,j,tJ d e.1,by rw[Q3 e d g];exact s,by rw[Q3 e d g];exact p,by rw[Q3 e d g];exact u⟩
theorem ZN {h h':Hp}{l:Sl}{xs:List (Int×Int×Int)}(ha:ic h l xs)(e:bK h h'):ic h' l xs:=M6 ha e λ_ h=>h.elim
theorem wU {h:Hp}{l:Sl}{xs:List (Int×Int×Int)}(ha:ic h l xs){i:Nat}{x y z:Int}(hx:xs[i]?=some (x,y,z)){K:Int->Int->Int->Prop}(hK:K x y z) :
 Ix l.a l.len (i:Int) 3 λa=>gA .i64 (a.add 0) h λu=>gA .i64 (a.add 1) h λv=>gA .i64 (a.add 2) h λw=>K u v w:=by
 obtain⟨b,o,d,m,g,e,j⟩:=ha.2 i x y z hx;have p:=(cW.1 hx).1;rw[d];refine ix O (by rw[ha.1];omega) ?_;rw[add_lit];refine fC (by simpa using g) (fC (by simpa using e) (fC (by simpa using j) hK))
end Go.Vc
namespace Go.Proofs
open Go.Vc
abbrev _root_.R1:=@Wc Tryz.prog
abbrev _root_.R2:=Option Addr
def WN.c (a b c d e f:Int)(g h:Sl)(i j k l:Int)(m:Hp)(n:aO):Prop:=R1 3 #[.agg #[.I a,.I b,.I c,.I d,.I e,.I f],.slice g.a g.len g.cap,.slice h.a h.len h.cap,.I i,.I j,.int .u8 k,.I l] [.one .b] m n
def XJ.c (a b c d e f:Int)(g:Sl)(h:Int)(i:Hp)(j:Option Addr->Hp->Prop):Prop:=R1 11 #[.agg #[.I a,.I b,.I c,.I d,.I e,.I f],.slice g.a g.len g.cap,.I h] [.one .p] i j
def Xp.c (a:Sl)(b:Int)(c:Hp)(d:aO):Prop:=R1 12 #[.slice a.a a.len a.cap,.I b] [.one .b] c d
def WG.c (a:Hp)(b:aO):Prop:=R1 13 #[] [.one .b] a b
def W8.c (a:R2)(b c d:Int)(e:Hp)(f:Int->Int->Hp->Prop):Prop:=R1 14 #[.pointer a,.I b,.I c,.I d] [.I,.I] e f
def XR.c (a:Int)(b:Hp)(c:aN):Prop:=R1 15 #[.I a] [.I] b c
def Xy.c (a:R2)(b:Int)(c:Hp)(d:Int->Int->Hp->Prop):Prop:=R1 16 #[.pointer a,.I b] [.I,.I] c d
def W3.c (a:R2)(b c:Int)(d:Hp)(e:aN):Prop:=R1 17 #[.pointer a,.I b,.I c] [.I] d e
def XW.c (a:Sl)(b c d e f g h:Int)(i:ByteArray)(j:Hp)(k:aN):Prop:=R1 18 #[.slice a.a a.len a.cap,.agg #[.I b,.I c,.I d,.I e,.I f,.I g,.I h,.string i]] [.I] j k
def WZ.c (a:R2)(b c d e f g h:Int)(i:ByteArray)(j:Hp)(k:aN):Prop:=R1 19 #[.pointer a,.agg #[.I b,.I c,.I d,.I e,.I f,.I g,.I h,.string i]] [.I] j k
def Xz.c (a:R2)(b:Int)(c:Hp)(d:Sl->Int->Hp->Prop):Prop:=R1 21 #[.pointer a,.I b] [.one .s,.I] c d
def Yl.c (a:R2)(b:Hp)(c:Sl->Hp->Prop):Prop:=R1 22 #[.pointer a] [.one .s] b c
def YH.c (a:R2)(b:Int)(c:Hp)(d:Int->Int->Int->Int->Int->Hp->Prop):Prop:=R1 23 #[.pointer a,.I b] [.agg [bN,bN,bN,bN],.I] c d
def Xx.c (a:R2)(b:Int)(c:Hp)(d:Int->Int->Hp->Prop):Prop:=R1 25 #[.pointer a,.I b] [.I,.I] c d
def Xd.c (a:R2)(b c:Int)(d:Hp)(e:aN):Prop:=R1 27 #[.pointer a,.I b,.I c] [.I] d e
def Xh.c (a:R2)(b c:Int)(d:Hp)(e:aN):Prop:=R1 29 #[.pointer a,.I b,.I c] [.I] d e
def XL.c (a b:Sl)(c:Hp)(d:aO):Prop:=R1 30 #[.slice a.a a.len a.cap,.slice b.a b.len b.cap] [.one .b] c d
def Qu.c (a:R2)(b:Hp)(c:Option Addr->Int->Hp->Prop):Prop:=R1 33 #[.pointer a] [.one .p,.I] b c
def Xq.c (a:Hp)(b:Option Addr->Hp->Prop):Prop:=R1 37 #[] [.one .p] a b
def WH.c (a b c d e f:Int)(g:Hp)(h:aO):Prop:=R1 38 #[.agg #[.I a,.I b,.I c,.I d,.I e,.I f]] [.one .b] g h
def Xt.c (a b c d e f:Int)(g:Hp)(h:Option Addr->Hp->Prop):Prop:=R1 39 #[.agg #[.I a,.I b,.I c,.I d,.I e,.I f]] [.one .p] g h
def WU.c (a:R2)(b:Hp)(c:aO):Prop:=R1 42 #[.pointer a] [.one .b] b c
def YJ.c (a:R2)(b c d:Int)(e:Hp)(f:Int->Int->Hp->Prop):Prop:=R1 43 #[.pointer a,.I b,.I c,.I d] [.I,.I] e f
def Xk.c (a b c d e:Int)(f:Hp)(g:aN):Prop:=R1 44 #[.agg #[.I a,.I b,.I c,.I d,.I e]] [.I] f g
def XA.c (a b c d e:Int)(f:Hp)(g:Fv->Hp->Prop):Prop:=R1 45 #[.agg #[.I a,.I b,.I c,.I d,.I e]] [.one .fn] f g
def Zy.c (a:Int)(b:Hp)(c:aN):Prop:=R1 46 #[.I a] [.I] b c
def X2.c (a:R2)(b c d e f g:Int)(h:Hp)(i:aP):Prop:=R1 47 #[.pointer a,.agg #[.I b,.I c,.I d,.I e,.I f],.I g] [] h i
def X8.c (a:R2)(b:Int)(c:Hp)(d:aN):Prop:=R1 48 #[.pointer a,.I b] [.I] c d
def YN.c (a:R2)(b:Int)(c:Hp)(d:Int->Int->Hp->Prop):Prop:=R1 49 #[.pointer a,.I b] [.I,.I] c d
def Xa.c (a:R2)(b c d e f:Int)(g:Hp)(h:aO):Prop:=R1 52 #[.pointer a,.agg #[.I b,.I c,.I d,.I e,.I f]] [.one .b] g h
def W9.c (a:R2)(b c d e f:Int)(g:Hp)(h:Sl->Hp->Prop):Prop:=R1 53 #[.pointer a,.agg #[.I b,.I c,.I d,.I e,.I f]] [.one .s] g h
def KJ.c (a:Sl)(b:Hp)(c:aP):Prop:=R1 54 #[.slice a.a a.len a.cap] [] b c
def WS.c (a:Sl)(b:Hp)(c:Sl->Hp->Prop):Prop:=R1 55 #[.slice a.a a.len a.cap] [.one .s] b c
def YW.c (a:R2)(b:Int)(c:Fv)(d:Hp)(e:Int->Int->Int->Int->Int->Bool->Hp->Prop):Prop:=R1 56 #[.pointer a,.I b,.func (.func c.f) c.first c.captured] [.agg [bN,bN,bN,bN,bN],.one .b] d e
def Yx.c (a b c d e:Int)(f:Hp)(g:aN):Prop:=R1 57 #[.agg #[.I a,.I b,.I c,.I d,.I e]] [.I] f g
def Xr.c (a:R2)(b:Hp)(c:aO):Prop:=R1 58 #[.pointer a] [.one .b] b c
def Yy.c (a:R2)(b:Hp)(c:Option Addr->Hp->Prop):Prop:=R1 61 #[.pointer a] [.one .p] b c
def Yo.c (a:R2)(b c:Int)(d:Hp)(e:aN):Prop:=R1 62 #[.pointer a,.I b,.I c] [.I] d e
def XT.c (a:R2)(b c:Int)(d:Bool)(e:Hp)(f:aN):Prop:=R1 63 #[.pointer a,.I b,.I c,.bool d] [.I] e f
def Qj.c (a:R2)(b:Hp)(c:aO):Prop:=R1 65 #[.pointer a] [.one .b] b c
def Wv.c (a b c d e f:Int)(g:Hp)(h:Option Addr->Hp->Prop):Prop:=R1 69 #[.agg #[.I a,.I b,.I c,.I d,.I e,.I f]] [.one .p] g h
def Zg.c (a:R2)(b c:Int)(d:Hp)(e:aN):Prop:=R1 70 #[.pointer a,.I b,.I c] [.I] d e
def YS.c (a:R2)(b c d e f:Int)(g:Hp)(h:aN):Prop:=R1 72 #[.pointer a,.I b,.agg #[.I c,.I d,.I e,.I f]] [.I] g h
def Y1.c (a:R2)(b:Int)(c:Hp)(d:Bool->Int->Int->Int->Hp->Prop):Prop:=R1 73 #[.pointer a,.I b] [.one .b,.agg [bN,bN],.I] c d
def XG.c (a:R2)(b:Hp)(c:aN):Prop:=R1 79 #[.pointer a] [.I] b c
def Ya.c (a:R2)(b c d e f:Int)(g:Hp)(h:Int->Int->Hp->Prop):Prop:=R1 81 #[.pointer a,.I b,.agg #[.I c,.I d,.I e,.I f]] [.I,.I] g h
def YI.c (a:R2)(b:Int)(c:Hp)(d:Int->Int->Hp->Prop):Prop:=R1 83 #[.pointer a,.I b] [.I,.I] c d
def KZ.c (a:Fv)(b:Hp)(c:Sl->Hp->Prop):Prop:=R1 84 #[.func (.func a.f) a.first a.captured] [.one .s] b c
def ZW.c (a:Fv)(b:Addr)(c:Hp)(d:aP):Prop:=R1 85 #[.func (.func a.f) a.first a.captured,.pointer (some b)] [] c d
def Xn.c (a:R2)(b c:Int)(d:Hp)(e:aN):Prop:=R1 88 #[.pointer a,.I b,.I c] [.I] d e
def Y3.c (a:R2)(b c:Int)(d:Hp)(e:aP):Prop:=R1 89 #[.pointer a,.I b,.I c] [] d e
def Yj.c (a:R2)(b:Int)(c:Hp)(d:aN):Prop:=R1 90 #[.pointer a,.I b] [.I] c d
def Qb.c (a:Fv)(b:Addr)(c:Hp)(d:aP):Prop:=R1 91 #[.func (.func a.f) a.first a.captured,.pointer (some b)] [] c d
def X1.c (a:R2)(b:Hp)(c:Int->Int->Int->Int->Int->Hp->Prop):Prop:=R1 92 #[.pointer a] [.agg [bN,bN,bN,bN,bN]] b c
def Wi.c (a:Sl)(b:Hp)(c:Sl->Hp->Prop):Prop:=R1 93 #[.slice a.a a.len a.cap] [.one .s] b c
def WD.c (a:Sl)(b:Hp)(c:Sl->Hp->Prop):Prop:=R1 98 #[.slice a.a a.len a.cap] [.one .s] b c
def WO.c (a:Int)(b:Hp)(c:Sl->Int->Hp->Prop):Prop:=R1 100 #[.I a] [.one .s,.I] b c
def Kn.c (a:Sl)(b c d e f:Int)(g:Hp)(h:Option Addr->Int->Hp->Prop):Prop:=R1 101 #[.slice a.a a.len a.cap,.agg #[.I b,.I c,.I d,.I e,.I f]] [.one .p,.I] g h
def XY.c (a:R2)(b:Int)(c:Hp)(d:aO):Prop:=R1 102 #[.pointer a,.I b] [.one .b] c d
def Yg.c (a:R2)(b c d e:Int)(f:Hp)(g:Value->Hp->Prop):Prop:=R1 103 #[.pointer a,.agg #[.I b,.I c,.I d,.I e]] [.one .raw] f g
def Zj.c (a:R2)(b:Int)(c:Value)(d:Hp)(e:Value->Int->Int->Hp->Prop):Prop:=R1 104 #[.pointer a,.I b,c] [.one .raw,.agg [bN,bN]] d e
def XB.c (a:R2)(b:Hp)(c:aN):Prop:=R1 108 #[.pointer a] [.I] b c
def Xu.c (a:R2)(b:Hp)(c:aO):Prop:=R1 109 #[.pointer a] [.one .b] b c
def W6.c (a:R2)(b:Hp)(c:aO):Prop:=R1 110 #[.pointer a] [.one .b] b c
def W7.c (a:R2)(b:Hp)(c:aO):Prop:=R1 111 #[.pointer a] [.one .b] b c
def Y4.c (a:R2)(b:Int)(c:Hp)(d:aN):Prop:=R1 117 #[.pointer a,.I b] [.I] c d
def Wj.c (a:Sl)(b c:Bool)(d:Hp)(e:aO):Prop:=R1 130 #[.slice a.a a.len a.cap,.agg #[.bool b,.bool c]] [.one .b] d e
def YX.c (a:R2)(b:Int)(c:Hp)(d:ByteArray->Hp->Prop):Prop:=R1 131 #[.pointer a,.I b] [.one .str] c d
def Xc.c (a b:Int)(c:Hp)(d:Int->Int->Int->Hp->Prop):Prop:=R1 137 #[.I a,.I b] [.agg [bN,bN,bN]] c d
def XM.c (a b:Int)(c:Hp)(d:aN):Prop:=R1 138 #[.I a,.I b] [.I] c d
def WL.c (a b c:Int)(d:Hp)(e:aN):Prop:=R1 139 #[.agg #[.I a,.I b,.I c]] [.I] d e
def Zs.c (a:Sl)(b:Hp)(c:aO):Prop:=R1 140 #[.slice a.a a.len a.cap] [.one .b] b c
def Qi.c (a b c d e:Int)(f:Hp)(g:aO):Prop:=R1 141 #[.agg #[.I a,.I b,.I c,.I d,.I e]] [.one .b] f g
def QI.c (a:Int)(b:Hp)(c:Option Addr->Int->Hp->Prop):Prop:=R1 142 #[.I a] [.one .p,.I] b c
def QK.c (a:Sl)(b:R2)(c:Int)(d:Hp)(e:Option Addr->Int->Hp->Prop):Prop:=R1 143 #[.slice a.a a.len a.cap,.pointer b,.I c] [.one .p,.I] d e
def QL.c (a:Sl)(b:Int)(c:Hp)(d:Option Addr->Int->Hp->Prop):Prop:=R1 144 #[.slice a.a a.len a.cap,.I b] [.one .p,.I] c d
def Z1.c (a:Sl)(b c:Int)(d:Hp)(e:Int->Int->Hp->Prop):Prop:=R1 145 #[.slice a.a a.len a.cap,.I b,.I c] [.I,.I] d e
def Zm.c (a:R2)(b:Int)(c:Hp)(d:aN):Prop:=R1 146 #[.pointer a,.I b] [.I] c d
def X4.c (a:R2)(b:Int)(c:Hp)(d:Int->Int->Hp->Prop):Prop:=R1 147 #[.pointer a,.I b] [.I,.I] c d
def YF.c (a:R2)(b c d:Int)(e:Hp)(f:Value->Int->Int->Hp->Prop):Prop:=R1 148 #[.pointer a,.I b,.I c,.I d] [.one .raw,.agg [bN,bN]] e f
def Yb.c (a:R2)(b:Int)(c:Hp)(d:Int->Int->Hp->Prop):Prop:=R1 149 #[.pointer a,.I b] [.I,.I] c d
def Wz.c (a:R2)(b:Int)(c:Hp)(d:Sl->Int->Hp->Prop):Prop:=R1 150 #[.pointer a,.I b] [.one .s,.I] c d
def Yi.c (a:R2)(b c:Int)(d:Sl)(e:Hp)(f:aP):Prop:=R1 151 #[.pointer a,.I b,.I c,.slice d.a d.len d.cap] [] e f
def WB.c (a:R2)(b c:Int)(d:Hp)(e:Sl->Int->Hp->Prop):Prop:=R1 152 #[.pointer a,.I b,.I c] [.one .s,.I] d e
def X5.c (a:R2)(b:Int)(c:Hp)(d:aN):Prop:=R1 153 #[.pointer a,.I b] [.I] c d
def XZ.c (a:R2)(b:Int)(c:Sl)(d:Hp)(e:aN):Prop:=R1 154 #[.pointer a,.I b,.slice c.a c.len c.cap] [.I] d e
def WJ.c (a:R2)(b c:Int)(d:Hp)(e:Int->Int->Hp->Prop):Prop:=R1 155 #[.pointer a,.I b,.I c] [.I,.I] d e
def Zf.c (a:R2)(b c:Int)(d:Hp)(e:Value->Int->Int->Hp->Prop):Prop:=R1 156 #[.pointer a,.I b,.I c] [.one .raw,.agg [bN,bN]] d e
def Yw.c (a:R2)(b c:Int)(d:Hp)(e:Sl->Int->Hp->Prop):Prop:=R1 157 #[.pointer a,.I b,.I c] [.one .s,.I] d e
def X6.c (a:R2)(b:Hp)(c:aO):Prop:=R1 158 #[.pointer a] [.one .b] b c
def WY.c (a:R2)(b:Hp)(c:Sl->Hp->Prop):Prop:=R1 159 #[.pointer a] [.one .s] b c
def WW.c (a:R2)(b:Int)(c:Hp)(d:Value->Hp->Prop):Prop:=R1 160 #[.pointer a,.I b] [.one .raw] c d
def Wq.c (a:Sl)(b:Hp)(c:Sl->Hp->Prop):Prop:=R1 161 #[.slice a.a a.len a.cap] [.one .s] b c
def Zk.c (a:R2)(b c:Int)(d:Sl)(e:Hp)(f:aP):Prop:=R1 162 #[.pointer a,.I b,.agg #[.I c,.slice d.a d.len d.cap]] [] e f
def WK.c (a:R2)(b:Int)(c:Hp)(d:aN):Prop:=R1 163 #[.pointer a,.I b] [.I] c d
def XH.c (a:R2)(b:Hp)(c:Sl->Hp->Prop):Prop:=R1 164 #[.pointer a] [.one .s] b c
def XV.c (a:R2)(b:Sl)(c:Hp)(d:aP):Prop:=R1 165 #[.pointer a,.slice b.a b.len b.cap] [] c d
def XK.c (a:R2)(b:Hp)(c:Sl->Hp->Prop):Prop:=R1 166 #[.pointer a] [.one .s] b c
def WM.c (a:R2)(b:Int)(c:Sl)(d:Hp)(e:aN):Prop:=R1 175 #[.pointer a,.I b,.slice c.a c.len c.cap] [.I] d e
def Qt.c (a b c:Int)(d:Hp)(e:aO):Prop:=R1 176 #[.agg #[.I a,.I b,.I c]] [.one .b] d e
def Zv.c (a b c:Int)(d:Hp)(e:aN):Prop:=R1 177 #[.agg #[.I a,.I b,.I c]] [.I] d e
def WF.c (a:R2)(b:Hp)(c:aO):Prop:=R1 178 #[.pointer a] [.one .b] b c
def Zw.c (a:R2)(b:Hp)(c:Int->Int->Hp->Prop):Prop:=R1 179 #[.pointer a] [.agg [bN,bN]] b c
def Xe.c (a:R2)(b:Hp)(c:aO):Prop:=R1 180 #[.pointer a] [.one .b] b c
def Yd.c (a:R2)(b:Hp)(c:aN):Prop:=R1 182 #[.pointer a] [.I] b c
def XX.c (a:R2)(b:Hp)(c:aO):Prop:=R1 183 #[.pointer a] [.one .b] b c
def Wn.c (a:Sl)(b c:Bool)(d:Hp)(e:aN):Prop:=R1 190 #[.slice a.a a.len a.cap,.agg #[.bool b,.bool c]] [.I] d e
def Xi.c (a:R2)(b:Hp)(c:aO):Prop:=R1 191 #[.pointer a] [.one .b] b c
def Xw.c (a:R2)(b:Hp)(c:aO):Prop:=R1 192 #[.pointer a] [.one .b] b c
def Z0.c (a:Hp)(b:Option Addr->Hp->Prop):Prop:=R1 193 #[] [.one .p] a b
def YA.c (a:R2)(b c d:Int)(e:Hp)(f:aN):Prop:=R1 195 #[.pointer a,.I b,.I c,.I d] [.I] e f
def QJ.c (a:Int)(b:Hp)(c:Option Addr->Int->Hp->Prop):Prop:=R1 197 #[.I a] [.one .p,.I] b c
def Km.c (a:Int)(b:Hp)(c:Option Addr->Int->Hp->Prop):Prop:=R1 198 #[.I a] [.one .p,.I] b c
def Z2.c (a b c:Int)(d:Hp)(e:Option Addr->Int->Hp->Prop):Prop:=R1 199 #[.agg #[.I a,.I b,.I c]] [.one .p,.I] d e
def ZJ.c (a b:Int)(c:Hp)(d:Option Addr->Int->Hp->Prop):Prop:=R1 200 #[.I a,.I b] [.one .p,.I] c d
def Z3.c (a:Int)(b:Hp)(c:aN):Prop:=R1 201 #[.I a] [.I] b c
def Wl.c (a:Sl)(b:Fv)(c:Hp)(d:aN):Prop:=R1 202 #[.slice a.a a.len a.cap,.func (.func b.f) b.first b.captured] [.I] c d
def ZG.c (a b c:Int)(d e:Addr)(f:Hp)(g:aO):Prop:=R1 203 #[.agg #[.I a,.I b,.I c],.pointer (some d),.pointer (some e)] [.one .b] f g
def Xj.c (a:R2)(b:Int)(c:Hp)(d:Option Addr->Int->Hp->Prop):Prop:=R1 204 #[.pointer a,.I b] [.one .p,.I] c d
def XQ.c (a:R2)(b:Int)(c:Hp)(d:aN):Prop:=R1 205 #[.pointer a,.I b] [.I] c d
def WQ.c (a:R2)(b:Int)(c:Hp)(d:aN):Prop:=R1 206 #[.pointer a,.I b] [.I] c d
def WA.c (a:R2)(b:Hp)(c:Sl->Int->Hp->Prop):Prop:=R1 207 #[.pointer a] [.one .s,.I] b c
def W4.c (a:R2)(b:Int)(c:Hp)(d:Sl->Int->Hp->Prop):Prop:=R1 208 #[.pointer a,.I b] [.one .s,.I] c d
def YB.c (a:R2)(b c d:Int)(e:Hp)(f:Int->Int->Hp->Prop):Prop:=R1 209 #[.pointer a,.I b,.I c,.I d] [.I,.I] e f
def YC.c (a:R2)(b:Int)(c:Hp)(d:aN):Prop:=R1 210 #[.pointer a,.I b] [.I] c d
def WT.c (a:Sl)(b:Hp)(c:aP):Prop:=R1 211 #[.slice a.a a.len a.cap] [] b c
def WR.c (a:R2)(b:Sl)(c:Hp)(d:aN):Prop:=R1 212 #[.pointer a,.slice b.a b.len b.cap] [.I] c d
def YE.c (a:R2)(b:Int)(c:Hp)(d:Int->Int->Int->Hp->Prop):Prop:=R1 213 #[.pointer a,.I b] [.I,.I,.I] c d
def W5.c (a:R2)(b:Int)(c:Hp)(d:Sl->Hp->Prop):Prop:=R1 214 #[.pointer a,.I b] [.one .s] c d
def Xf.c (a:R2)(b:Fv)(c:Hp)(d:Sl->Hp->Prop):Prop:=R1 215 #[.pointer a,.func (.func b.f) b.first b.captured] [.one .s] c d
def Xo.c (a:R2)(b:Int)(c:Hp)(d:Sl->Hp->Prop):Prop:=R1 216 #[.pointer a,.I b] [.one .s] c d
def WE.c (a:R2)(b:Int)(c:Sl)(d:Hp)(e:Bool->Int->Hp->Prop):Prop:=R1 217 #[.pointer a,.I b,.slice c.a c.len c.cap] [.one .b,.I] d e
def Yq.c (a:R2)(b:Int)(c:Hp)(d:Sl->Hp->Prop):Prop:=R1 218 #[.pointer a,.I b] [.one .s] c d
def XD.c (a:R2)(b c:Int)(d:Hp)(e:aN):Prop:=R1 219 #[.pointer a,.I b,.I c] [.I] d e
def Xl.c (a:R2)(b c:Int)(d:Hp)(e:aN):Prop:=R1 220 #[.pointer a,.I b,.I c] [.I] d e
def X0.c (a:R2)(b c:Int)(d:Hp)(e:aN):Prop:=R1 221 #[.pointer a,.I b,.I c] [.I] d e
def We.c (a:Sl)(b:Fv)(c:Hp)(d:Sl->Hp->Prop):Prop:=R1 222 #[.slice a.a a.len a.cap,.func (.func b.f) b.first b.captured] [.one .s] c d
def XO.c (a b:Int)(c:R2)(d:Addr)(e:Hp)(f:aO):Prop:=R1 223 #[.agg #[.I a,.I b,.pointer c],.pointer (some d)] [.one .b] e f
def YL.c (a:R2)(b:Hp)(c:aN):Prop:=R1 224 #[.pointer a] [.I] b c
def YY.c (a:R2)(b:Int)(c:Hp)(d:Sl->Hp->Prop):Prop:=R1 226 #[.pointer a,.I b] [.one .s] c d
def XE.c (a:R2)(b c d:Int)(e:Sl)(f:Hp)(g:aN):Prop:=R1 230 #[.pointer a,.I b,.I c,.I d,.slice e.a e.len e.cap] [.I] f g
def Yk.c (a:R2)(b:Int)(c:Hp)(d:Sl->Int->Hp->Prop):Prop:=R1 233 #[.pointer a,.I b] [.one .s,.I] c d
def Qf.c (a:Sl)(b:Int)(c:Hp)(d:aP):Prop:=R1 235 #[.slice a.a a.len a.cap,.I b] [] c d
def YO.c (a:R2)(b c:Int)(d:Hp)(e:aN):Prop:=R1 236 #[.pointer a,.I b,.I c] [.I] d e
def Yf.c (a:R2)(b:Int)(c:Hp)(d:aO):Prop:=R1 237 #[.pointer a,.I b] [.one .b] c d
def Zl.c (a:R2)(b c:Int)(d:Hp)(e:aP):Prop:=R1 238 #[.pointer a,.I b,.I c] [] d e
def YG.c (a:R2)(b:Sl)(c:Hp)(d:Sl->Int->Hp->Prop):Prop:=R1 241 #[.pointer a,.slice b.a b.len b.cap] [.one .s,.I] c d
def Yh.c (a:R2)(b:Hp)(c:aO):Prop:=R1 242 #[.pointer a] [.one .b] b c
def Y7.c (a:R2)(b:Int)(c:Hp)(d:aN):Prop:=R1 245 #[.pointer a,.I b] [.I] c d
def YT.c (a:R2)(b c:Int)(d:Hp)(e:aP):Prop:=R1 246 #[.pointer a,.I b,.I c] [] d e
def Zn.c (a b c:Int)(d:Hp)(e:Int->Int->Hp->Prop):Prop:=R1 247 #[.agg #[.I a,.I b,.I c]] [.I,.I] d e
def Zi.c (a:R2)(b:Int)(c:Hp)(d:Option Addr->Hp->Prop):Prop:=R1 248 #[.pointer a,.I b] [.one .p] c d
def Wk.c (a:Sl)(b:Fv)(c:Hp)(d:aN):Prop:=R1 249 #[.slice a.a a.len a.cap,.func (.func b.f) b.first b.captured] [.I] c d
def YP.c (a:R2)(b:Addr)(c:Hp)(d:aO):Prop:=R1 250 #[.pointer a,.pointer (some b)] [.one .b] c d
def YK.c (a:R2)(b:Int)(c:Hp)(d:aO):Prop:=R1 251 #[.pointer a,.I b] [.one .b] c d
def YM.c (a:R2)(b:Hp)(c:Int->Bool->Hp->Prop):Prop:=R1 252 #[.pointer a] [.I,.one .b] b c
def XC.c (a:R2)(b c:Int)(d:Hp)(e:Int->Int->Hp->Prop):Prop:=R1 253 #[.pointer a,.I b,.I c] [.I,.I] d e
def YD.c (a:R2)(b:Int)(c:Hp)(d:aO):Prop:=R1 254 #[.pointer a,.I b] [.one .b] c d
def Xv.c (a:R2)(b c:Int)(d:Hp)(e:aN):Prop:=R1 255 #[.pointer a,.I b,.I c] [.I] d e
def XU.c (a:R2)(b c d:Int)(e:Hp)(f:aN):Prop:=R1 256 #[.pointer a,.I b,.I c,.I d] [.I] e f
def Ko.c (a b c d:Int)(e:Hp)(f:Option Addr->Int->Hp->Prop):Prop:=R1 257 #[.I a,.agg #[.I b,.I c,.I d]] [.one .p,.I] e f
def Wb.c (a:Sl)(b:Int)(c:Fv)(d:Hp)(e:Int->Bool->Hp->Prop):Prop:=R1 258 #[.slice a.a a.len a.cap,.I b,.func (.func c.f) c.first c.captured] [.I,.one .b] d e
def Yz.c (a b:Int)(c:R2)(d:Int)(e:Hp)(f:aN):Prop:=R1 259 #[.agg #[.I a,.I b,.pointer c],.I d] [.I] e f
def Wf.c (a:Sl)(b:Int)(c:Sl)(d:Hp)(e:Sl->Hp->Prop):Prop:=R1 260 #[.slice a.a a.len a.cap,.I b,.slice c.a c.len c.cap] [.one .s] d e
def Xg.c (a:Sl)(b:Hp)(c:Sl->Hp->Prop):Prop:=R1 261 #[.slice a.a a.len a.cap] [.one .s] b c
def Ye.c (a:R2)(b:Int)(c:Hp)(d:Int->Int->Hp->Prop):Prop:=R1 262 #[.pointer a,.I b] [.I,.I] c d
def ZO.c (a:Sl)(b:Fv)(c:Hp)(d:aP):Prop:=R1 263 #[.slice a.a a.len a.cap,.func (.func b.f) b.first b.captured] [] c d
def WX.c (a:R2)(b:Int)(c:Hp)(d:Bool->Int->Hp->Prop):Prop:=R1 265 #[.pointer a,.I b] [.one .b,.I] c d
def W0.c (a:R2)(b:Sl)(c:Hp)(d:Bool->Int->Hp->Prop):Prop:=R1 266 #[.pointer a,.slice b.a b.len b.cap] [.one .b,.I] c d
def X9.c (a:R2)(b c:Int)(d:Hp)(e:aP):Prop:=R1 267 #[.pointer a,.I b,.I c] [] d e
def Wh.c (a:Sl)(b:Fv)(c:Hp)(d:aN):Prop:=R1 268 #[.slice a.a a.len a.cap,.func (.func b.f) b.first b.captured] [.I] c d
def Wx.c (a:Sl)(b:Fv)(c:Hp)(d:aO):Prop:=R1 270 #[.slice a.a a.len a.cap,.func (.func b.f) b.first b.captured] [.one .b] c d
def Yr.c (a:Int)(b:Addr)(c:Hp)(d:aO):Prop:=R1 271 #[.I a,.pointer (some b)] [.one .b] c d
def Wp.c (a:Sl)(b:Int)(c:Hp)(d:aO):Prop:=R1 272 #[.slice a.a a.len a.cap,.I b] [.one .b] c d
def YZ.c (a:R2)(b c:Int)(d:Hp)(e:Sl->Int->Hp->Prop):Prop:=R1 273 #[.pointer a,.I b,.I c] [.one .s,.I] d e
def Y5.c (a:R2)(b c:Int)(d e:Bool)(f:Hp)(g:aP):Prop:=R1 274 #[.pointer a,.I b,.I c,.agg #[.bool d,.bool e]] [] f g
def Xm.c (a:R2)(b:Int)(c:Hp)(d:Int->Int->Bool->Hp->Prop):Prop:=R1 275 #[.pointer a,.I b] [.I,.I,.one .b] c d
def XF.c (a:R2)(b:Int)(c:Hp)(d:Option Addr->Hp->Prop):Prop:=R1 277 #[.pointer a,.I b] [.one .p] c d
def Zo.c (a:R2)(b:Int)(c:Hp)(d:aN):Prop:=R1 278 #[.pointer a,.I b] [.I] c d
def Ww.c (a:R2)(b:Hp)(c:Option Addr->Hp->Prop):Prop:=R1 279 #[.pointer a] [.one .p] b c
def Wy.c (a:R2)(b:Hp)(c:Option Addr->Hp->Prop):Prop:=R1 280 #[.pointer a] [.one .p] b c
def XN.c (a:R2)(b:Int)(c:Hp)(d:aN):Prop:=R1 281 #[.pointer a,.I b] [.I] c d
def WV.c (a b c d:Int)(e:Hp)(f:aO):Prop:=R1 282 #[.agg #[.I a,.I b],.agg #[.I c,.I d]] [.one .b] e f
def Zh.c (a:R2)(b:Hp)(c:Int->Int->Hp->Prop):Prop:=R1 283 #[.pointer a] [.I,.I] b c
def XI.c (a:Sl)(b:Hp)(c:aN):Prop:=R1 284 #[.slice a.a a.len a.cap] [.I] b c
def Z6.c (a:Option Nat)(b:Hp)(c:Fv->Hp->Prop):Prop:=R1 285 #[.map a] [.one .fn] b c
def YU.c (a:R2)(b c:Int)(d:Hp)(e:aN):Prop:=R1 286 #[.pointer a,.I b,.I c] [.I] d e
def XS.c (a:R2)(b:Int)(c:Hp)(d:aN):Prop:=R1 287 #[.pointer a,.I b] [.I] c d
def Kb.c (a:Sl)(b:Int)(c:Hp)(d:aP):Prop:=R1 289 #[.slice a.a a.len a.cap,.I b] [] c d
def X3.c (a:R2)(b:Int)(c:Hp)(d:Int->Int->Hp->Prop):Prop:=R1 290 #[.pointer a,.I b] [.I,.I] c d
def Yn.c (a:R2)(b:Int)(c:Hp)(d:Bool->Int->Hp->Prop):Prop:=R1 292 #[.pointer a,.I b] [.one .b,.I] c d
def Y6.c (a:R2)(b c:Int)(d:Hp)(e:aP):Prop:=R1 293 #[.pointer a,.I b,.I c] [] d e
def WP.c (a:Sl)(b:Fv)(c:Hp)(d:aN):Prop:=R1 302 #[.slice a.a a.len a.cap,.func (.func b.f) b.first b.captured] [.I] c d
def WC.c (a:Sl)(b:Int)(c:Hp)(d:aN):Prop:=R1 303 #[.slice a.a a.len a.cap,.I b] [.I] c d
def X7.c (a:R2)(b:Int)(c:Hp)(d:Int->Int->Hp->Prop):Prop:=R1 304 #[.pointer a,.I b] [.I,.I] c d
def YV.c (a:R2)(b:Int)(c:Sl)(d:Hp)(e:aP):Prop:=R1 305 #[.pointer a,.I b,.slice c.a c.len c.cap] [] d e
def Ym.c (a:R2)(b:Int)(c:Hp)(d:aN):Prop:=R1 306 #[.pointer a,.I b] [.I] c d
def QV.c (a:Fv)(b:Addr)(c:Hp)(d:aP):Prop:=R1 307 #[.func (.func a.f) a.first a.captured,.pointer (some b)] [] c d
def Wg.c (a:Sl)(b:Fv)(c:Hp)(d:aO):Prop:=R1 308 #[.slice a.a a.len a.cap,.func (.func b.f) b.first b.captured] [.one .b] c d
def Yt.c (a b:Bool)(c:Hp)(d:aO):Prop:=R1 309 #[.agg #[.bool a,.bool b]] [.one .b] c d
def Wm.c (a:Sl)(b:Fv)(c:Hp)(d:aN):Prop:=R1 322 #[.slice a.a a.len a.cap,.func (.func b.f) b.first b.captured] [.I] c d
def ZI.c (a:Int)(b:Hp)(c:ByteArray->Hp->Prop):Prop:=R1 346 #[.agg #[.I a]] [.one .str] b c
def ZA.c (a:Int)(b:Hp)(c:ByteArray->Hp->Prop):Prop:=R1 347 #[.agg #[.I a]] [.one .str] b c
def ZM.c (a:Int)(b:Hp)(c:ByteArray->Hp->Prop):Prop:=R1 348 #[.agg #[.I a]] [.one .str] b c
def Zz.c (a:Hp)(b:ByteArray->Hp->Prop):Prop:=R1 349 #[.agg #[]] [.one .str] a b
def YQ.c (a b:Int)(c:Hp)(d:ByteArray->Hp->Prop):Prop:=R1 350 #[.agg #[.I a,.I b]] [.one .str] c d
def ZH.c (a:Hp)(b:ByteArray->Hp->Prop):Prop:=R1 351 #[.agg #[]] [.one .str] a b
def Zc.c (a b:Int)(c:Hp)(d:ByteArray->Hp->Prop):Prop:=R1 352 #[.agg #[.I a,.I b]] [.one .str] c d
def ZF.c (a b:Int)(c:Hp)(d:ByteArray->Hp->Prop):Prop:=R1 353 #[.agg #[.I a,.I b]] [.one .str] c d
def ZX.c (a b:Int)(c:Hp)(d:ByteArray->Hp->Prop):Prop:=R1 354 #[.agg #[.I a,.I b]] [.one .str] c d
def ZL.c (a:Hp)(b:ByteArray->Hp->Prop):Prop:=R1 355 #[.agg #[]] [.one .str] a b
def ZK.c (a b:Int)(c:Hp)(d:ByteArray->Hp->Prop):Prop:=R1 356 #[.agg #[.I a,.I b]] [.one .str] c d
set_option maxRecDepth 100000
def XX.h:Hn:=.q .o1 (.q (.cR (.seq [.op,.op,.op,.cU true 5 (RI.ops 5),.op])) .l)
abbrev _root_.aQ(a:Addr)(n:Nat)(h:Hp)(K:Int->Prop):Prop:=gA .i64 (a.add n) h K
abbrev _root_.aR(a:Addr)(n:Nat)(v:Value)(h:Hp)(K:Hp->Prop):Prop:=dX (a.add n) v h K
abbrev _root_.aX(a:Addr)(n:Nat)(h:Hp)(K:Sl->Prop):Prop:=jq (a.add n) h K
abbrev _root_.aY(a:Addr)(n:Nat)(h:Hp)(K:Option Addr->Prop):Prop:=fU (a.add n) h K
abbrev _root_.aZ(a:Addr)(n:Nat)(h:Hp)(K:Bool->Prop):Prop:=lg (a.add n) h K
abbrev _root_.bA(a:Addr)(n:Nat)(h:Hp)(K:Value->Prop):Prop:=yl (a.add n) h K
abbrev _root_.bB(a:Addr)(n:Nat)(h:Hp)(K:Option Nat->Prop):Prop:=kZ (a.add n) h K
abbrev _root_.bC(a:Addr)(n:Nat)(h:Hp)(K:ByteArray->Prop):Prop:=wg (a.add n) h K
abbrev _root_.bD(p:Option Addr)(n:Nat)(h:Hp)(K:Int->Prop):Prop:=bU p λa=>gA .i64 (a.add n) h K
abbrev _root_.bE(p:Option Addr)(n:Nat)(h:Hp)(K:Sl->Prop):Prop:=bU p λa=>jq (a.add n) h K
abbrev _root_.bF(p:Option Addr)(n:Nat)(h:Hp)(K:Option Addr->Prop):Prop:=bU p λa=>fU (a.add n) h K
abbrev _root_.bG(p:Option Addr)(n:Nat)(h:Hp)(K:Bool->Prop):Prop:=bU p λa=>lg (a.add n) h K
abbrev _root_.bH(p:Option Addr)(n:Nat)(h:Hp)(K:Value->Prop):Prop:=bU p λa=>yl (a.add n) h K
abbrev _root_.bI(p:Option Addr)(n:Nat)(h:Hp)(K:Option Nat->Prop):Prop:=bU p λa=>kZ (a.add n) h K
abbrev _root_.bJ(p:Option Addr)(n:Nat)(h:Hp)(K:ByteArray->Prop):Prop:=bU p λa=>wg (a.add n) h K
abbrev _root_.aS(S:Hp->Prop)(a:Addr)(n:Nat)(K:Int->Prop):Prop:=gD S bN (a.add n) K
abbrev _root_.aT(S:Hp->Prop)(a:Addr)(n:Nat)(K:Sl->Prop):Prop:=gD S .s (a.add n) K
abbrev _root_.aU(S:Hp->Prop)(a:Addr)(n:Nat)(K:Option Addr->Prop):Prop:=gD S .p (a.add n) K
abbrev _root_.bL(e:Int)(K:Int->Prop):Prop:=Ar .i64 e K
abbrev _root_.bM(a:Addr)(h:Hp)(K:Int->Prop):Prop:=gA .i64 a h K
abbrev _root_.aV(c:Array Value)(t:Nat)(h:Hp)(K:Addr->Hp->Prop):Prop:=Nw (.cells c t (0,0)) h K
def XX.v (a:R2)(b:Hp)(c:aO):Prop:=bV (λd e=>c d e) λf=>If (!a.isNone) (bD a 0 b λh=>f (decide (h>0)) b) (f false b)
theorem XX.o {a b c}(d:XX.v a b c):XX.c a b c:=Wa Tryz.func183 (x:=XX.h) (R0 d)
def QJ.h:Hn:=.q .o2 (.q (.q (.cR (.seq [.op,.op,.op,.cU false 2 [.op,.op]])) .aJ) (.q .o4 (.q (.q .o1 (.k (.loop [(5,.I)] (.q (.q .o3 (.c .l .l)) (.q (.k (.o 11)) .o3))))) (.q .o3 .l))))
def QJ.v (a:Int)(b:Hp)(c:Option Addr->Int->Hp->Prop):Prop:=bV (λd e=>If d (c none 1 e) (Nw (.cells #[.I a,.slice none 0 0] 269 (0,0)) e λf g=>Yp [bN] (λh=>h 1 g) λi (j:Int) k=>If (j<=a) (bU (some f) λl=>jq (l.add 1) k λm=>Nw (.map #[] 0) k λn o=>Nw (.cells #[.map (some n.block)] 72 (0,0)) o λp q=>App m 1 8 72 [.map none] ⟨some p,1,1⟩ q λr s=>bU (some f) λt=>dX (t.add 1) (.slice r.a r.len r.cap) s λu=>Ar .i64 (j*2) λv=>i v u) (c (some f) 0 k))) λw=>If (a<1) (w true b) (w (decide (a>1024)) b)
theorem QJ.o {a b c}(d:QJ.v a b c):QJ.c a b c:=Wa Tryz.func197 (x:=QJ.h) (R0 d)
def X0.h:Hn:=.q .o1 (.q (.q .o5 (.q .o2 .aJ)) (.q (.q .o2 (.k (.loop [(8,.I)] (.q (.q .o5 (.c .l .l)) (.q (.k (.q .o3 .aK)) .o3))))) (.q .o4 .aM)))
def X0.v (a:R2)(b c:Int)(d:Hp)(e:aN):Prop:=YO.c a b c d λf g=>If (f != 0) (e f g) (Yp [bN] (λh=>h b g) λi (j:Int) k=>bL (b+c) λl=>If (j<l) (Yf.c a j k λm n=>If m (e 9 n) (bL (j+1) λo=>i o n)) (X9.c a b c k λp=>e 0 p))
theorem X0.o {a b c d e}(f:X0.v a b c d e):X0.c a b c d e:=Wa Tryz.func221 (x:=X0.h) (R0 f)
def YO.h:Hn:=.q .o1 (.q (.k (.q .o4 (.c .aM (.q (.cR (.seq [.op,.op,.op,.cU false 2 [.op,.op],.op,.cU false 6 (RI.ops 6),.op,.cU false 8 (RI.ops 8),.op])) .aK)))) .aM)
def YO.v (a:R2)(b c:Int)(d:Hp)(e:aN):Prop:=XX.c a d λf g=>If (!f) (e 5 g) (bV (λh i=>bV (λj k=>bV (λl m=>If l (e 1 m) (e 0 m)) λn=>If j (n true k) (bD a 0 k λp=>bL (p-b) λq=>n (decide (c>q)) k)) λr=>If h (r true i) (bD a 0 i λt=>r (decide (b>t)) i)) λu=>If (b<0) (u true g) (u (decide (c<1)) g))
theorem YO.o {a b c d e}(f:YO.v a b c d e):YO.c a b c d e:=Wa Tryz.func236 (x:=YO.h) (R0 f)
def Yf.h:Hn:=.q .o1 (.q (.q (.cR (.seq [.op,.op,.op,.op,.cU false 2 [.op,.op],.op,.cU false 6 (RI.ops 6)])) .aK) (.q .gQ .aL))
def Yf.v (a:R2)(b:Int)(c:Hp)(d:aO):Prop:=XX.c a c λe f=>bV (λg h=>bV (λi j=>If i (d false j) (Xm.c a b j λk l m n=>d m n)) λo=>If g (o true h) (bD a 0 h λq=>o (decide (b≥q)) h)) λr=>If (!e) (r true f) (r (decide (b<0)) f)
theorem Yf.o {a b c d}(e:Yf.v a b c d):Yf.c a b c d:=Wa Tryz.func237 (x:=Yf.h) (R0 e)
def Zl.h:Hn:=.q .o2 (.k (.loop [(6,.I)] (.q (.q .o5 (.c .l .l)) (.k (.q .gQ (.q .o9 (.q .o5 (.q .o6 (.q (.q .o4 (.q .o3 (.c .o6 .l))) .o2)))))))))
def Zl.v (a:R2)(b c:Int)(d:Hp)(e:aP):Prop:=Yp [bN] (λf=>f b d) λg (h:Int) i=>bL (b+c) λj=>If (h<j) (Xm.c a h i λk l m n=>bE a 1 n λp=>Ix p.a p.len k 1 λq=>kZ q n λr=>lJ .i64 .b r l n λs=>Nn k<|bL ((1:Int)*2^(min k.toNat IntKind.i64.bits)) λt=>bL (l+t) λu=>bL (h-l) λv=>X9.c a l v s λw=>bL (b+c) λx=>If (u>x) (bL (u-x) λy=>X9.c a x y w λz=>g u z) (g u w)) (e i)
theorem Zl.o {a b c d e}(f:Zl.v a b c d e):Zl.c a b c d e:=Wa Tryz.func238 (x:=Zl.h) (R0 f)
def XC.h:Hn:=.q .o2 (.q (.k (.q .o4 (.c .aL (.q (.cR (.seq [.op,.op,.op,.cU false 2 [.op,.op],.op,.cU false 2 [.op,.op],.op,.cU false 2 [.op,.op],.op,.cU false 5 (RI.ops 5),.op])) .aJ)))) (.q (.q .o6 (.k (.loop [(42,.I)] (.q .o1 (.q (.c .l .l) (.q (.k (.q .o5 (.q (.cR (.seq [.op,.op,.op,.op,.op,.op,.op,.cU true 3 (RI.ops 3)])) (.c (.q .o5 (.q .o4 (.q .o3 .l))) .l)))) .o2)))))) .aL))
def XC.v (a:R2)(b c:Int)(d:Hp)(e:Int->Int->Hp->Prop):Prop:=XX.c a d λf g=>If (!f) (e 0 5 g) (bV (λh i=>bV (λj k=>bV (λl m=>bV (λn o=>If n (e 0 1 o) (bE a 1 o λq=>Yp [bN] (λr=>r 0 o) λs (t:Int) u=>If (t<((q.len:Nat):Int)) (Ix q.a q.len t 1 λv=>kZ v u λw=>Nn t<|bL ((1:Int)*2^(min t.toNat IntKind.i64.bits)) λx=>bV (λy z=>If y (Z6.c w z λaa ab=>KZ.c aa ab λac ad=>XI.c ac ad λae af=>Zl.c a ae b af λag=>e ae 0 ag) (bL (t+1) λah=>s ah z)) λai=>If (x≥(if c>b then c else b)) (qE .i64 .b w u λaj=>ai (decide (aj>0)) u) (ai false u)) (e 0 6 u))) λak=>If l (ak true m) (bL (c-1) λal=>ak ((bits .and .i64 c al) != 0) m)) λam=>If j (am true k) (am (decide (c>1024)) k)) λan=>If h (an true i) (an (decide (c<1)) i)) λao=>If (b<1) (ao true g) (ao (decide (b>1024)) g))
theorem XC.o {a b c d e}(f:XC.v a b c d e):XC.c a b c d e:=Wa Tryz.func253 (x:=XC.h) (R0 f)
def X9.h:Hn:=.k (.loop [(1,.I),(2,.I)] (.q (.q .o2 (.c .l .l)) (.k (.q .o1 (.q (.k (.loop [(6,.I)] (.q (.q (.cR (.seq [.op,.op,.op,.op,.op,.op,.op,.op,.op,.op,.cU true 5 (RI.ops 5)])) (.c .l .l)) (.k .o3)))) (.q .o4 (.oq 10)))))))
def X9.v (a:R2)(b c:Int)(d:Hp)(e:aP):Prop:=Yp [bN,bN] (λf=>f b c d) λg (h:Int) (i:Int) j=>If (i>0) (Yp [bN] (λk=>k 0 j) λl (m:Int) n=>bL (m+1) λo=>Nn o <| bL (m+1) λp=>Nn p<|bL ((h.fdiv (2^(min o.toNat IntKind.i64.bits)))*2^(min p.toNat IntKind.i64.bits)) λq=>bV (λr s=>If r (bL (m+1) λt=>l t s) (Y6.c a m h s λu=>Nn m<|bL ((1:Int)*2^(min m.toNat IntKind.i64.bits)) λv=>bL (h+v) λw=>Nn m<|bL ((1:Int)*2^(min m.toNat IntKind.i64.bits)) λx=>bL (i-x) λy=>g w y u)) λz=>If (q==h) (bL (m+1) λaa=>Nn aa<|bL ((1:Int)*2^(min aa.toNat IntKind.i64.bits)) λab=>z (decide (ab<=i)) n) (z false n)) (e j)
theorem X9.o {a b c d e}(f:X9.v a b c d e):X9.c a b c d e:=Wa Tryz.func267 (x:=X9.h) (R0 f)
def Xm.h:Hn:=.q .o3 (.q (.q .o6 (.k (.loop [(15,.I)] (.q .o1 (.q (.c .l .l) (.q (.k (.q .o5 (.q .o6 (.q .o3 (.c (.q .o5 .l) .l))))) .o2)))))) (.q .o3 .l))
def Xm.v (a:R2)(b:Int)(c:Hp)(d:Int->Int->Bool->Hp->Prop):Prop:=bE a 1 c λf=>Yp [bN] (λg=>g 0 c) λh (i:Int) j=>If (i<((f.len:Nat):Int)) (Ix f.a f.len i 1 λk=>kZ k j λl=>Nn i <| Nn i<|bL ((b.fdiv (2^(min i.toNat IntKind.i64.bits)))*2^(min i.toNat IntKind.i64.bits)) λm=>Lk .i64 .b l m j λn=>If (n.getD false) (d i m true j) (bL (i+1) λo=>h o j)) (d 0 0 false j)
theorem Xm.o {a b c d}(e:Xm.v a b c d):Xm.c a b c d:=Wa Tryz.func275 (x:=Xm.h) (R0 e)
def Y6.h:Hn:=.q (.k (.loop [(1,.I),(2,.I)] (.q (.q (.cR (.quiet [.op,.op,.op,.op,.op,.op,.op,.op,.op,.cU true 12 (RI.ops 12)])) (.c .l .l)) (.k (.q (.cR (.tail 11 (RI.ops 11) [.op])) (.q .o8 .o3)))))) .o9
def Y6.v (a:R2)(b c:Int)(d:Hp)(e:aP):Prop:=Yp [bN,bN] (λf=>f b c d) λg (h:Int) (i:Int) j=>bL (h+1) λk=>bE a 1 j λm=>bV (λn o=>If n (bE a 1 o λq=>Ix q.a q.len h 1 λr=>kZ r o λs=>Nn h<|bL ((1:Int)*2^(min h.toNat IntKind.i64.bits)) λt=>lJ .i64 .b s (bits .xor .i64 i t) o λu=>bL (h+1) λv=>Nn v <| bL (h+1) λw=>Nn w<|bL ((i.fdiv (2^(min v.toNat IntKind.i64.bits)))*2^(min w.toNat IntKind.i64.bits)) λx=>bL (h+1) λy=>g y x u) (bE a 1 o λaa=>Ix aa.a aa.len h 1 λab=>kZ ab o λac=>kc .i64 .b ac i true o λad=>e ad)) λae=>If (k<((m.len:Nat):Int)) (bE a 1 j λag=>Ix ag.a ag.len h 1 λah=>kZ ah j λai=>Nn h<|bL ((1:Int)*2^(min h.toNat IntKind.i64.bits)) λaj=>Lk .i64 .b ai (bits .xor .i64 i aj) j λak=>ae (ak.getD false) j) (ae false j)
theorem Y6.o {a b c d e}(f:Y6.v a b c d e):Y6.c a b c d e:=Wa Tryz.func293 (x:=Y6.h) (R0 f)
end Go.Proofs
namespace Go.Vc
open Go
variable {ro:Option Nat}{m0:Nat}
def Fw (ro:Option Nat):Fence:={Fence.wide with round:=ro}
theorem FB {P:Program}{f:Nat}{args:Array Value}{w:World}{R:Ending->World->Prop}(h:Calls P f args w R):CallsIn (Fw ro) m0 P f args w R:=by
 cases ro with
 | none=>exact callsIn_wide.2 h
 | some l=>exact CallsIn.inRound l (callsIn_wide.2 h)
theorem F7 {P:Program}{ρ:Operand->Value}{o:Oper}{w:World}{K:Value->Hp->Prop}(h:QF P (execOp ρ o) w K):∀c,o.op≠.defer c:=by
 intro c hc;have key:∀(s:Sem Deferred) r,((do pure (Next.defer (←s)):Sem Next).run P w=.ok r w->∃d,r=.defer d)/\(∀w',(do pure (Next.defer (←s)):Sem Next).run P w=.ok r w'->∃d,r=.defer d):=by
  intro s r;have:∀w',(do pure (Next.defer (←s)):Sem Next).run P w=.ok r w'->∃d,r=.defer d:=by
   intro w' hr;rw[Sem.run_bind]at hr;cases hs:s.run P w with
   | ok d w2=>
    rw[hs]at hr;simp at hr;exact⟨d,hr.1.symm⟩
   | halt x w2=>
    rw[hs]at hr;simp at hr
  exact⟨this w,this⟩
 have a:execOp ρ o=(do pure (Next.defer (←resolve ρ c o.type)):Sem Next):=by unfold execOp;rw[hc]
 rw[a]at h;rcases h with⟨v,w',hr,_⟩|⟨w',hr,_⟩|⟨f,args,rs,R,hr,_⟩
 ·obtain⟨d,hd⟩:=(key _ _).2 w' hr;cases hd
 ·obtain⟨d,hd⟩:=(key _ _).2 w' hr;cases hd
 ·obtain⟨d,hd⟩:=(key _ _).2 w hr;cases hd
theorem QF.uponIn {P:Program}{o:Oper}{a:Act}{w:World}{K:Value->Hp->Prop}{next:Act->World->Prop}{Q:Exit->Act->World->Prop}
 (h:QF P (execOp a.eval o) w K) (hn:∀v w',Xb w w'->K v w'.heap->next (a.put o.dst v) w'):o.wpIn (Fw ro) m0 P a w next Q:=by
 refine⟨λ_ _=>trivial,?_⟩;rw[Oper.semAt_eq _ _ _ (F7 h)];rcases h with⟨v,w',hr,b,hK⟩|⟨w',hr,b,hK⟩|⟨f,args,rs,R,hr,hc,hK⟩
 ·rw[hr];exact hn _ _ b hK
 ·rw[hr];exact hn _ _ b hK
 ·rw[hr];refine⟨λh=>by simp[Fw,Fence.wide]at h,FB ((hc w rfl).mono λe w' ⟨b,vs,d,g⟩=>?_)⟩;subst d;exact hn _ _ b (hK _ _ g)
theorem EK {P:Program}{N:Nat}{ops:Array Oper}{Q:Exit->Act->World->Prop}{tail:List Oper}{w:World}:∀{os:List Oper} {ρ:Env} {a:Act},Ub N ops os ρ=true->Fits N ρ a →
 (∀a',Fits N (ρ.dT (os.filterMap (·.dst))) a'->wpListIn (Fw ro) m0 P ops Q tail a' w)->wpListIn (Fw ro) m0 P ops Q (os++tail) a w
 | [],ρ,a,_,hf,h=>h a (hf.weaken (GG _ _))
 | o::os,ρ,a,hs,hf,h=>by
  simp only[Ub,zF]at hs;obtain⟨h1,h2,h3⟩:=hs;have m:=KA hf h1;simp only[kW,wpListIn,m];refine⟨λ_ _=>trivial,?_⟩;refine EK h3 (hf.put h2 _) λa' g=>h a' (g.weaken λi v b=>?_);simp only[Env.dT]at b ⊢;cases hc:(List.filterMap (·.dst) (o::os)).contains i
  ·rw[hc]at b;simp only[cond_false]at b;have e:(List.filterMap (·.dst) os).contains i=false:=by
    cases hd:o.dst<;>simp_all
   have j:∀d,o.dst=some d->i≠d:=by
    intro d hd;simp_all
   rw[e];simp only[cond_false];cases hd:o.dst with
   | none=>exact b
   | some d=>
    have:=j d hd;simp only[Env.ib,Env.put];have:Nat.beq i d=false:=by
     cases hb:Nat.beq i d
     ·rfl
     ·exact absurd (zt hb) this
    rw[this];exact b
  ·rw[hc]at b;cases b
theorem KE {P:Program}{N:Nat}{ops:Array Oper}{Q:Exit->Act->World->Prop}:∀(n:Nat) {hs:List RI} {os:List Oper} {tail:List Oper} {ρ:Env} {a:Act} {w:World} {K:Env->Hp->Prop},
 eC P N ops n hs os ρ w.heap K->Fits N ρ a->(∀ρ' a' w',Fits N ρ' a'->Xb w w'->Vo os ρ ρ'->K ρ' w'.heap->wpListIn (Fw ro) m0 P ops Q tail a' w')->wpListIn (Fw ro) m0 P ops Q (os++tail) a w
 | 0,_,_,_,_,_,_,_,h,_,_=>(by simp only[eC]at h)
 | n+1,[],[],tail,ρ,a,w,K,h,hf,hK=>by
  simp only[eC]at h;exact hK ρ a w hf (.refl _) (λ_ _ _ h=>h) h
 | n+1,[],o::os,tail,ρ,a,w,K,h,hf,hK=>(by simp only[eC]at h)
 | n+1,.op::hs,[],tail,ρ,a,w,K,h,hf,hK=>(by simp only[eC]at h)
 | n+1,.op::hs,o::os,tail,ρ,a,w,K,h,hf,hK=>by
  simp only[eC]at h;rw[Wu]at h;obtain⟨hc,h⟩:=h;simp only[zF]at hc;have R:=Ze hf hc.1;simp only[kW,wpListIn,R,zR];refine QF.uponIn (Uq hf.ev o h) λv w' E u=>?_;exact KE n u (hf.put hc.2 v) λρ' a' A g s C p=>hK ρ' a' A g (E.trans s) C.cons p
 | n+1,.it ki c::hs,[],tail,ρ,a,w,K,h,hf,hK=>(by simp only[eC]at h)
 | n+1,.it ki c::hs,o::os,tail,ρ,a,w,K,h,hf,hK=>by
  simp only[eC]at h;rw[Wu]at h;obtain⟨hc,h⟩:=h;simp only[zF]at hc;have R:=Ze hf hc.1;simp only[kW,wpListIn,R,zR];refine QF.uponIn (DM hf.ev o h) λv w' E u=>?_;exact KE n u (hf.put hc.2 v) λρ' a' A g s C p=>hK ρ' a' A g (E.trans s) C.cons p
 | n+1,.cU and m inner::hs,os,tail,ρ,a,w,K,h,hf,hK=>by
  simp only[eC]at h;split at h
  case h_2=>exact h.elim
  rename_i pk rest hdrop;split at h
  case h_2=>exact h.elim
  rename_i c x y d hop hd;split at h
  case h_2=>exact h.elim
  rename_i b hb;rw[Wu]at h;obtain⟨hc,J,hJ,h⟩:=h;simp only[zF]at hc;obtain⟨L,U,ab,X,F⟩:=hc;have ad:pX N pk.dst=true:=by rw[hd];exact L
  have Y:os++tail=os.take m++(pk::rest++tail):=by
   rw[←hdrop,←zz,nu]
  rw[Y];have j:∀(r b':Bool) (z:Operand) a' w',b=b'->(bif b' then x else y)=z->Fits N (ρ.dT ((os.take m).filterMap (·.dst))) a'->Xb w w'->J r w'.heap->Region.wanted pk (yielded ops a'.tmps)=true →
   a'.eval (.tmp c)=.bool b'->a'.eval z=.bool r->wpListIn (Fw ro) m0 P ops Q (pk::rest++tail) a' w':=by
   intro r b' z a' w' e ez g E M R D hez;simp only[kW,wpListIn,R,zR];refine QF.uponIn (K:=λv W=>v=.bool r/\W=w'.heap) (DH hop D (by rw[ez];exact hez) ⟨rfl,rfl⟩) λv A s u=>?_;obtain⟨rfl,hh⟩:=u;have aa:=g.put (d:=some d) L (.bool r);rw[hd];have G:=hJ _ _ M;rw[←hh]at G;exact KE n G aa λρ' ac w3 V S C p=>hK ρ' ac w3 V ((E.trans s).trans S) (Vo.cU hd hdrop C) p
  have run:∀(b':Bool) (z:Operand),b=b'->(bif b' then x else y)=z →
   eC P N ops n inner (os.take m) (ρ.put c (.bool b')) w.heap (λρ' W=>fQ (HW ops pk ρ'&&rm ρ' c b') (VY ρ' z λr=>J r W))->wpListIn (Fw ro) m0 P ops Q (os.take m++(pk::rest++tail)) a w:=by
   intro b' z e ez hseg;refine KE n hseg (hf.lit hb e) λρ' a' w' g E C u=>?_;rw[Wu]at u;simp only[zF]at u;obtain⟨⟨hg,Z⟩,u⟩:=u;obtain⟨r,hr,M⟩:=Kj u;exact j r b' z a' w' e ez (g.uo hb e C) E M (Ze g hg) (g.ev _ _ (Uj Z)) (g.ev _ _ hr)
  have B:∀(b':Bool),b=b'->b' = !and->J (!and) w.heap->wpListIn (Fw ro) m0 P ops Q (os.take m++(pk::rest++tail)) a w:=by
   intro b' e eb M;subst eb;refine EK F (hf.lit hb e) λa' g=>?_;have H:Fits N (ρ.dT ((os.take m).filterMap (·.dst))) a':=g.uo (ρ':=(ρ.put c (.bool (!and))).dT ((os.take m).filterMap (·.dst))) hb e (λi hi v hv=>by simp only[Env.dT,hi];exact hv);have D:=g.ev (.tmp c) _ (Uj X);refine j (!and) (!and) (bif (!and)then x else y) a' w e rfl H (.refl _) M (Ze H ab) D ?_;refine yx ?_ _ (λv=>rfl);cases and<;>exact U
  cases and
  ·simp only[cond_false]at h;cases b
   ·exact run false y rfl rfl (h.f rfl)
   ·exact B true rfl rfl (h.t rfl)
  ·simp only[cond_true]at h;cases b
   ·exact B false rfl rfl (h.f rfl)
   ·exact run true x rfl rfl (h.t rfl)
end Go.Vc
namespace Go.Vc
open Go
variable {ro:Option Nat}{m0:Nat}{P:Program}
def Act.wd (a:Act)(ds:List Deferred):Act:={a with defers:=ds}
theorem G7 (a:Act)(ds:List Deferred)(d:Option Nat)(v:Value):(Act.wd a ds).put d v=Act.wd (a.put d v) ds:=by cases d<;>rfl
theorem BA (a:Act)(d e:List Deferred):Act.wd (Act.wd a d) e=Act.wd a e:=rfl
theorem VL {a:Act}{ds:List Deferred}(h:a.defers=ds):Act.wd a ds=a:=by subst h;rfl
def jB (P:Program)(o:Oper):Bool:=match o.op with
 | .call c=>match c.callee with
  | .value (.func f)=>VI P f
  | _=>false
 | .move _ | .assign _ | .alloc _ | .box _ _ | .build _ _ | .buildSlice _ _ _ | .load _ _ | .store _ _ _ | .binOp _ _ _ _ _ | .unOp _ _ _ | .fieldAddr _ _ _ | .indexAddr _ _ _ | .lookup _ _ _ _ | .mapUpdate _ _ _ _ | .extract _ _ | .nilCheck _ | .pick _ _ _=>true
 | _=>false
theorem Im {s:Sem Value}{w w':World}{r:Next}(h:(do pure (Next.value (←s)):Sem Next).run P w=.ok r w'):∃v,r=.value v:=by
 rw[Sem.run_bind]at h;cases hs:s.run P w with
 | ok d w2=>rw[hs]at h;simp at h;exact⟨d,h.1.symm⟩
 | halt x w2=>rw[hs]at h;simp at h
theorem JY {s:Sem Unit}{w w':World}{r:Next}(h:(do s;pure Next.skip:Sem Next).run P w=.ok r w'):r=.skip:=by
 rw[Sem.run_bind]at h;cases hs:s.run P w with
 | ok d w2=>rw[hs]at h;simp at h;exact h.1.symm
 | halt x w2=>rw[hs]at h;simp at h
def Iq (r:Next):Prop:=(∃v,r=.value v)\/r=.skip\/∃f args,r=.enter f args
theorem BJ {α:Type}{s:Sem α}{f:α->Sem Next}{w w':World}{r:Next}(h:(s >>= f).run P w=.ok r w'):∃x w2,(f x).run P w2=.ok r w':=by
 rw[Sem.run_bind]at h;cases hs:s.run P w with
 | ok d w2=>rw[hs]at h;exact⟨d,w2,h⟩
 | halt x w2=>rw[hs]at h;simp at h
theorem Gm {x r:Next}{w w':World}(h:(pure x:Sem Next).run P w=.ok r w'):r=x:=by rw[Sem.run_pure]at h;cases h;rfl
theorem xD {r:Next}{w w':World}(h:(runtimePanic .nilDeref:Sem Next).run P w=.ok r w'):False:=by simp[runtimePanic,goPanic,Sem.run,go_sem]at h
theorem NT {a:Act}{o:Oper}{w w':World}{r:Next}(hk:jB P o=true)(h:(execOp a.eval o).run P w=.ok r w'):Iq r:=by
 unfold jB at hk;unfold execOp at h;cases ho:o.op<;>rw[ho]at hk h<;>simp only at hk h<;>first
  | exact .inl (Im h)
  | exact .inr (.inl (JY h))
  | cases hk
  | skip
 case move x=>rw[Sem.run_pure]at h;cases h;exact .inl ⟨_,rfl⟩
 case assign x=>rw[Sem.run_pure]at h;cases h;exact .inl ⟨_,rfl⟩
 case pick c x y=>
  rw[Sem.run_bind]at h;cases hs:(asBool (a.eval c)).run P w with
  | ok d e=>rw[hs]at h;simp at h;exact .inl ⟨_,h.1.symm⟩
  | halt x e=>rw[hs]at h;simp at h
 case call c=>
  obtain⟨callee,args,b⟩:=c;simp only at hk h;split at hk
  ·rename_i f;have g:=Vd hk (args.map a.eval) w;have i:(do let d ←resolve a.eval {callee:=.value (.func f),args:=args,argTypes:=b} o.type;invoke d.target d.args:Sem Next).run P w=(callFunc f (args.map a.eval)).run P w:=by
    simp[resolve,Act.eval,Deferred.ofValue,invoke]
   rw[i,g]at h;cases h;exact .inr (.inr ⟨_,_,rfl⟩)
  ·cases hk
 case nilCheck x=>
  split at h
  ·exact(xD h).elim
  ·exact(xD h).elim
  ·exact(xD h).elim
  ·split at h
   ·exact(xD h).elim
   ·obtain⟨y,e,h⟩:=BJ h;obtain⟨z,m,h⟩:=BJ h;split at h
    ·obtain⟨y,j,h⟩:=BJ h;exact .inl ⟨_,Gm h⟩
    ·exact .inl ⟨_,Gm h⟩
   ·exact .inl ⟨_,Gm h⟩
  ·exact .inl ⟨_,Gm h⟩
theorem E8 {o:Oper}{a:Act}{w:World}{ds:List Deferred}{next next':Act->World->Prop}{Q Q':Exit->Act->World->Prop}(hk:jB P o=true)(h:o.wp P (Act.wd a []) w next Q')
 (hn:∀a' w',next a' w'->a'.defers=[]->next' (Act.wd a' ds) w') (hp:∀c a w,¬Q' (.panic c) a w) (ho:∀a w,¬Q' .outgrown a w):o.wpIn (Fw ro) m0 P (Act.wd a ds) w next' Q:=by
 have d:∀c,o.op≠.defer c:=λc m=>by unfold jB at hk;rw[m]at hk;cases hk
 refine⟨λ_ _=>trivial,?_⟩;rw[Oper.semAt_eq _ _ _ d];unfold Oper.wp at h;have j:(execOp (Act.wd a []).eval o)=execOp (Act.wd a ds).eval o:=rfl;rw[j]at h;have hd:∀v,((Act.wd a []).put o.dst v).defers=[]:=λv=>by rw[G7];rfl
 have g:∀v,Act.wd ((Act.wd a []).put o.dst v) ds=(Act.wd a ds).put o.dst v:=λv=>by rw[G7,G7,BA]
 cases hr:(execOp (Act.wd a ds).eval o).run P w with
 | ok r w'=>
  rw[hr]at h;rcases NT hk hr with⟨v,rfl⟩|rfl|⟨f,args,rfl⟩
  ·rw[Oper.uponIn_value,←g];exact hn _ _ h (hd v)
  ·rw[Oper.uponIn_skip,←g];exact hn _ _ h (hd _)
  ·refine⟨λh=>by simp[Fw,Fence.wide]at h,FB (Calls.mono h λe i b=>?_)⟩;cases e with
   | returned v=>
    show next' ((Act.wd a ds).put o.dst v) i;rw[←g];exact hn _ _ b (hd v)
   | panicked chain=>exact(hp _ _ _ b).elim
   | outgrown=>obtain⟨p,w0,b⟩:=b;exact(ho _ _ b).elim
 | halt x w'=>
  rw[hr]at h;cases x<;>first
   | exact(hp _ _ _ h).elim
   | exact h.elim
theorem PI {ops:Array Oper}{i:Nat}{a:Act}{w:World}{ds:List Deferred}{next next':Act->World->Prop}{Q Q':Exit->Act->World->Prop}(hk:∀o∈ops,jB P o=true)(h:wpOp P ops Q' i next (Act.wd a []) w)
 (hn:∀a' w',next (Act.wd a' []) w'->next' (Act.wd a' ds) w') (hp:∀c a w,¬Q' (.panic c) a w) (ho:∀a w,¬Q' .outgrown a w):wpOpIn (Fw ro) m0 P ops Q i next' (Act.wd a ds) w:=by
 unfold wpOp at h;unfold wpOpIn;cases hi:ops[i]? with
 | none=>rw[hi]at h;exact hn _ _ h
 | some o=>
  rw[hi]at h;simp only at h ⊢;have b:yielded ops (Act.wd a []).tmps=yielded ops (Act.wd a ds).tmps:=rfl;rw[b]at h;split
  ·rename_i hw;rw[zC hw]at h;rcases h with h|⟨_,a0,w0,hq⟩
   ·exact E8 (hk o (xV hi)) h (λa' w' d hd=>hn a' w' (by rw[VL hd];exact d)) hp ho
   ·exact(ho _ _ hq).elim
  ·rename_i hw;rw[zB hw,G7]at h;refine⟨λ_ _=>trivial,?_⟩;rw[G7];exact hn _ _ h
theorem y9 {ops:Array Oper}{ds:List Deferred}{Q Q':Exit->Act->World->Prop}(hk:∀o∈ops,jB P o=true)(hp:∀c a w,¬Q' (.panic c) a w)(ho:∀a w,¬Q' .outgrown a w)(hN:∀a w,Q' .normal (Act.wd a []) w->Q .normal (Act.wd a ds) w) :
 ∀(m:Nat) (listed:Array Bool) (a:Act) (w:World),wpAny P .any ops Q' m listed (Act.wd a []) w->wpAnyIn (Fw ro) m0 P .any ops Q m listed (Act.wd a ds) w
 | 0,listed,a,w,h=>⟨h.1,hN _ _ h.2⟩
 | m+1,listed,a,w,h=>⟨λe=>hN _ _ (h.1 e),λi hi=>PI hk (h.2 i hi) (λa' w' h'=>y9 hk hp ho hN m _ a' w' h') hp ho⟩
theorem AY {ops:Array Oper}{ds:List Deferred}{Q Q':Exit->Act->World->Prop}(hp:∀c a w,¬Q' (.panic c) a w)(ho:∀a w,¬Q' .outgrown a w)(hN:∀a w,Q' .normal (Act.wd a []) w->Q .normal (Act.wd a ds) w) :
 ∀(l:List Oper) (a:Act) (w:World),(∀o∈l,jB P o=true)->wpList P ops Q' l (Act.wd a []) w->wpListIn (Fw ro) m0 P ops Q l (Act.wd a ds) w
 | [],a,w,_,h=>hN _ _ h
 | o::l,a,w,hk,h=>by
  have hl:=λi b=>hk i (np _ b);unfold wpList at h;unfold wpListIn;have d:yielded ops (Act.wd a []).tmps=yielded ops (Act.wd a ds).tmps:=rfl;rw[d]at h;split
  ·rename_i hw;rw[zC hw]at h;rcases h with h|⟨_,a0,w0,hq⟩
   ·exact E8 (hk o pG) h (λg e j hd=>AY hp ho hN l g e hl (by rw[VL hd];exact j)) hp ho
   ·exact(ho _ _ hq).elim
  ·rename_i hw;rw[zB hw,G7]at h;refine⟨λ_ _=>trivial,?_⟩;rw[G7];exact AY hp ho hN l _ w hl h
structure lu (ds:List Deferred) (N:Nat) (ρ:Env) (a:Act):Prop where
 f:Fits N ρ (Act.wd a [])
 d:a.defers=ds
theorem lu.ev {ds:List Deferred}{N:Nat}{ρ:Env}{a:Act}(h:lu ds N ρ a):∀x v,ev ρ x=some v->a.eval x=v:=λx v b=>h.f.ev x v b
def Ad (Q:Act->World->Prop):Exit->Act->World->Prop
 | .normal,a,w=>Q a w
 | _,_,_=>False
def oD (P:Program)(dz:Bool)(ops:Array Oper)(draw:Bool):RH->Bool
 | .seq _=>!draw&&(dz||ops.all (jB P))
 | .held _ _ _=>draw&&ops.all (jB P)
 | .hO _ _ _ _=>draw&&ops.all (jB P)
 | _=>false
theorem AQ {ops:Array Oper}(h:ops.all (jB P)=true):∀o∈ops,jB P o=true:=λo a=>by rw[Array.all_eq_true']at h;exact h o a
theorem Fs {N id:Nat}{ops:Array Oper}{sm:Bool}{C:List Nat}{sh:SH}{K:Env->Hp->Prop}{ρ:Env}{a:Act}{w:World}{Q:Act->World->Prop}
 (hsel:Region.noSelect ops=true) (h:xO P N sm C sh ops ρ w.heap K)
 (hf:Fits N ρ a) (hK:∀ρ' a' w',Fits N ρ' a'->Xb w w'->Vo ops.toList ρ ρ'->K ρ' w'.heap->Q a' w'):wpAny P .any ops (Ad Q) ops.size (Array.replicate ops.size false) a {w with drawn:=w.drawn+1}:=by
 have hd:Xb w {w with drawn:=w.drawn+1}:=⟨rfl,rfl,rfl,zD _⟩;have e:Ad Q=λe a w=>match e with | .normal=>Q a w|_=>False:=by funext e a w;cases e<;>rfl
 rw[e];cases sm
 ·exact VE _ _ _ _ (ZP (S:=λ_=>True) (w:={w with drawn:=w.drawn+1}) (Qn:=Q) hsel (λ_ _=>trivial) 400 ops.size h hf (hU.start ops) (.inl trivial) λρ' a' w' b i d g=>hK ρ' a' w' b (hd.trans i) d g)
 ·obtain⟨S,j,h⟩:=h;exact VE _ _ _ _ (ZP (S:=S) (w:={w with drawn:=w.drawn+1}) (Qn:=Q) hsel (λe=>by cases e) 400 ops.size h hf (hU.start ops) (.inl j) λρ' a' w' b i d g=>hK ρ' a' w' b (hd.trans i) d g)
theorem Nl {N id:Nat}{r:RH}{ops:Array Oper}{draw:Bool}{ρ:Env}{a:Act}{w:World}{K:Env->Hp->Prop}{Q:Exit->Act->World->Prop}{ds:List Deferred}
 (h:mo P N r ops draw ρ w.heap K) (ho:oD P ds.isEmpty ops draw r=true) (hf:lu ds N ρ a) (hK:∀ρ' a' w',lu ds N ρ' a'->Xb w w'->K ρ' w'.heap->Q .normal a' w'):(Code.region id ops draw).wpIn (Fw ro) m0 P Q a w:=by
 have D:Act.wd (Act.wd a []) ds=a:=by rw[BA];exact VL hf.d
 have g:∀ρ' a' w',Fits N ρ' a'->Xb w w'->K ρ' w'.heap->Q .normal (Act.wd a' ds) w':=λρ' a' w' b i e=>hK ρ' _ w' ⟨by rw[BA,VL b.defers];exact b,rfl⟩ i e;unfold mo at h;split at h
 ·rename_i A;simp only[oD,wL,pV,nm]at ho;refine wpIn_region_list ?_;rcases ho with ho|ho
  ·have z:ds=[]:=by cases ds<;>simp at ho;rfl
   subst z;have x:Act.wd a []=a:=D;rw[←x];have:=KE (ro:=ro) (m0:=m0) (Q:=Q) (tail:=[]) 400 h hf.f λρ' a' w' b i p e=>by
    have:=g ρ' a' w' b i e;rw[VL b.defers]at this;exact this
   simpa using this
  ·have:=Kd (Q:=Ad λa' w'=>Q .normal (Act.wd a' ds) w') (tail:=[]) 400 h hf.f λρ' a' w' b i p e=>g ρ' a' w' b i e;have j:=AY (ro:=ro) (m0:=m0) (ds:=ds) (Q:=Q) (ops:=ops) (λ_ _ _ h=>h) (λ_ _ h=>h) (λa w h=>h) ops.toList a w (λo y=>AQ ho o (by simpa using y)) (by simpa using this);rw[VL hf.d]at j;exact j
 ·cases ho
 ·cases ho
 ·rename_i sm sh;rw[Wu]at h;simp only[zF]at h;simp only[oD,pV]at ho;refine wpIn_region_any h.1.1 ?_;have s:=Fs (id:=id) (Q:=λa' w'=>Q .normal (Act.wd a' ds) w') h.1.2 h.2 hf.f λρ' a' w' b i p e=>g ρ' a' w' b i e;have j:=y9 (ro:=ro) (m0:=m0) (ds:=ds) (Q:=Q) (AQ ho) (λ_ _ _ h=>h) (λ_ _ h=>h) (λa w h=>h) _ _ _ _ s;rw[VL hf.d]at j;exact j
 ·rename_i sm js sh;rw[Wu]at h;simp only[zF]at h;simp only[oD,pV]at ho;obtain⟨⟨E,m,F⟩,J,B,h⟩:=h;refine wpIn_region_any E ?_;have s:=Fs (id:=id) (Q:=λa' w'=>Q .normal (Act.wd a' ds) w') m h hf.f λρ' a' w' b i p e=>by
   obtain⟨vs,C,A⟩:=Uy e;have u:=VB (A.mono B);exact g _ a' w' (Q7 js (Vt b p) b C) i u
  have j:=y9 (ro:=ro) (m0:=m0) (ds:=ds) (Q:=Q) (AQ ho) (λ_ _ _ h=>h) (λ_ _ h=>h) (λa w h=>h) _ _ _ _ s;rw[VL hf.d]at j;exact j
 ·exact h.elim
def nE (P:Program)(dz:Bool):Code->Hn->Bool
 | .skip,_=>true
 | .ret,_=>true
 | .exit _,_=>true
 | .region _ ops d,.cR r=>oD P dz ops d r
 | .seq a b,.seq x y=>nE P dz a x&&nE P dz b y
 | .cond _ a b,.cond x y=>nE P dz a x&&nE P dz b y
 | .block _ b,.block x=>nE P dz b x
 | _,_=>false
theorem QQ {N:Nat}{ds:List Deferred}:∀(c:Code) {x:Hn} {Q:Exit->Env->Hp->Prop} {Q':Exit->Act->World->Prop} {ρ:Env} {a:Act} {w:World},
 iz P N c x Q ρ w.heap->nE P ds.isEmpty c x=true->lu ds N ρ a->(∀e ρ' a' w',lu ds N ρ' a'->Xb w w'->Q e ρ' w'.heap->Q' e a' w')->c.wpIn (Fw ro) m0 P Q' a w
 | .skip,x,Q,Q',ρ,a,w,h,ho,hf,hq=>by
  have h':Q .normal ρ w.heap:=by cases x<;>exact h
  exact wpIn_skip (hq _ ρ a w hf (.refl _) h')
 | .ret,x,Q,Q',ρ,a,w,h,ho,hf,hq=>by
  have h':Q .ret ρ w.heap:=by cases x<;>exact h
  exact wpIn_ret (hq _ ρ a w hf (.refl _) h')
 | .exit id,x,Q,Q',ρ,a,w,h,ho,hf,hq=>by
  have h':Q (.exit id) ρ w.heap:=by cases x<;>exact h
  exact wpIn_exit (hq _ ρ a w hf (.refl _) h')
 | .region id ops d,x,Q,Q',ρ,a,w,h,ho,hf,hq=>by
  cases x<;>simp only[iz]at h
  exact Nl h ho hf λρ' a' w' b j g=>hq _ ρ' a' w' b j g
 | .seq c1 c2,x,Q,Q',ρ,a,w,h,ho,hf,hq=>by
  cases x<;>simp only[iz]at h
  case seq x y=>
   simp only[nE,zF]at ho;refine wpIn_seq (QQ c1 h ho.1 hf λe ρ' a' w' b j g=>?_);cases e
   case normal=>exact QQ c2 g ho.2 b λe r z s m p u=>hq e r z s m (j.trans p) u
   all_goals exact hq _ ρ' a' w' b j g
  case kr=>cases ho
 | .cond c c1 c2,x,Q,Q',ρ,a,w,h,ho,hf,hq=>by
  cases x<;>simp only[iz]at h
  simp only[nE,zF]at ho;obtain⟨t,B,h⟩:=Kj h;refine wpIn_cond_split (hf.ev _ _ B) (λe=>?_) (λe=>?_)
  ·exact QQ c1 (h.t e) ho.1 hf hq
  ·exact QQ c2 (h.f e) ho.2 hf hq
 | .block id c1,x,Q,Q',ρ,a,w,h,ho,hf,hq=>by
  cases x<;>simp only[iz]at h
  refine wpIn_block (QQ c1 h ho hf λe ρ' a' w' b j g=>?_);cases e
  case exit i=>
   simp only[wk]at g;simp only[Exit.inBlock];split at g
   ·rename_i e;have A:i=id:=zt e;rw[zC A];exact hq _ ρ' a' w' b j g
   ·rename_i e;have A:i≠id:=λh=>by subst h;simp at e
    rw[zB A];exact hq _ ρ' a' w' b j g
  all_goals exact hq _ ρ' a' w' b j g
 | .loop ..,x,Q,Q',ρ,a,w,h,ho,hf,hq=>(by cases x<;>cases ho)
 | .scope ..,x,Q,Q',ρ,a,w,h,ho,hf,hq=>(by cases x<;>cases ho)
 | .label ..,x,Q,Q',ρ,a,w,h,ho,hf,hq=>(by cases x<;>cases ho)
 | .rangeFunc ..,x,Q,Q',ρ,a,w,h,ho,hf,hq=>(by cases x<;>cases ho)
 | .goto ..,x,Q,Q',ρ,a,w,h,ho,hf,hq=>(by cases x<;>cases ho)
 | .refuse ..,x,Q,Q',ρ,a,w,h,ho,hf,hq=>(by cases x<;>cases ho)
def UW (P:Program)(l:Nat)(args:List Value)(h:Hp)(R:aO):Prop:=
 ∀w:World,w.heap=h->∃fn tmps asg bd,(Instr.yield l args.toArray).run P w=.ok (.round l fn tmps asg bd) w/\RoundIn Fence.wide 0 P l fn tmps asg bd w λe w'=>Xb w w'/\∃b,e=.returned (.bool b)/\R b w'.heap
def yK (P:Program)(o:Oper)(ρ:Env)(h:Hp)(K:Value->Hp->Prop):Prop:=match o.op with
 | .call c=>match c.callee with
  | .value (.tmp t)=>match ρ t,pa ρ c.args.toList with
   | some (.func (.yield l) first cap),some args=>fQ (first.isEmpty&&cap.isEmpty) (UW P l args h λb h'=>K (.bool b) h')
   | _,_=>False
  | _=>qN P o.op o.type ρ h K
 | _=>qN P o.op o.type ρ h K
theorem Mj {ρ:Env}{o:Oper}{a:Act}{w:World}{K:Value->Hp->Prop}{next:Act->World->Prop}{Q:Exit->Act->World->Prop}(hf:∀x v,ev ρ x=some v->a.eval x=v)
 (h:yK P o ρ w.heap K) (hn:∀v w',Xb w w'->K v w'.heap->next (a.put o.dst v) w'):o.wpIn (Fw ro) m0 P a w next Q:=by
 have d:qN P o.op o.type ρ w.heap K->o.wpIn (Fw ro) m0 P a w next Q:=λh=>QF.uponIn (Uq hf o h) hn
 unfold yK at h;split at h
 ·rename_i c hc;split at h
  ·rename_i t ht;split at h
   ·rename_i l first cap args hρ hargs
    rw[Wu]at h;obtain⟨g,h⟩:=h;simp only[zF,xT]at g;obtain⟨rfl,rfl⟩:=g;have r:∀c,o.op≠.defer c:=λL A=>by rw[hc]at A;cases A
    refine⟨λ_ _=>trivial,?_⟩;rw[Oper.semAt_eq _ _ _ r];obtain⟨J,m,u,F,D,C⟩:=h w rfl;have e1:=ZE hf hargs;have i:c.args.map a.eval=args.toArray:=by apply Array.ext';simpa using e1
    have e2:a.eval (.tmp t)=.func (.yield l) #[] #[]:=hf (.tmp t) _ hρ;have j:(execOp a.eval o).run P w=.ok (.round l J m u F) w:=by
     obtain⟨dst,op,M,pos,s,z⟩:=o;simp only at hc;subst hc;obtain⟨p,y,E⟩:=c;simp only at ht i;subst ht;simpa[execOp,resolve,i,e2,Deferred.ofValue,invoke]using D
    rw[j];refine⟨λh=>by simp[Fw,Fence.wide]at h,?_⟩;refine RoundIn.mono (R:=λe w'=>Xb w w'/\∃b,e=.returned (.bool b)/\K (.bool b) w'.heap) ⟨trivial,λc B _=>C.2 c B (room_wide _)⟩ ?_;rintro e w' ⟨H,b,rfl,G⟩;exact hn _ _ H G
   ·exact h.elim
  ·exact d h
 ·exact d h
def xj (P:Program)(N:Nat):List Oper->Env->Hp->(Env->Hp->Prop)->Prop
 | [],ρ,h,K=>K ρ h
 | o::os,ρ,h,K=>fQ (pX N o.dst&&o.guard.isNone) (yK P o ρ h λv h'=>xj P N os (ρ.ib o.dst v) h' K)
theorem D9 {N:Nat}{ops:Array Oper}{Q:Exit->Act->World->Prop}:∀{os:List Oper} {ρ:Env} {a:Act} {w:World} {K:Env->Hp->Prop},
 xj P N os ρ w.heap K->Fits N ρ a->(∀ρ' a' w',Fits N ρ' a'->Xb w w'->Vo os ρ ρ'->K ρ' w'.heap->Q .normal a' w')->wpListIn (Fw ro) m0 P ops Q os a w
 | [],ρ,a,w,K,h,hf,hK=>hK ρ a w hf (.refl _) (λ_ _ _ h=>h) h
 | o::os,ρ,a,w,K,h,hf,hK=>by
  simp only[xj]at h;rw[Wu]at h;obtain⟨hc,h⟩:=h;simp only[zF,Option.isNone_iff_eq_none]at hc;have j:Region.wanted o (yielded ops a.tmps)=true:=by simp[Region.wanted,hc.2]
  simp only[wpListIn,j,zR];refine Mj hf.ev h λv w' p m=>?_;exact D9 m (hf.put hc.1 v) λρ' a' e d b i g=>hK ρ' a' e d (p.trans b) i.cons g
def gO (P:Program)(N:Nat):Code->Hn->(Exit->Env->Hp->Prop)->Env->Hp->Prop
 | .skip,_,Q,ρ,h=>Q .normal ρ h
 | .ret,_,Q,ρ,h=>Q .ret ρ h
 | .exit id,_,Q,ρ,h=>Q (.exit id) ρ h
 | .region _ ops d,.cR r,Q,ρ,h=>mo P N r ops d ρ h λρ' h'=>Q .normal ρ' h'
 | .region _ ops false,.leaf,Q,ρ,h=>xj P N ops.toList ρ h λρ' h'=>Q .normal ρ' h'
 | .seq a b,.seq x y,Q,ρ,h=>gO P N a x (uw (λρ' h'=>gO P N b y Q ρ' h') Q) ρ h
 | .cond c a b,.cond x y,Q,ρ,h=>VY ρ c λt=>If t (gO P N a x Q ρ h) (gO P N b y Q ρ h)
 | .block id b,.block x,Q,ρ,h=>gO P N b x (wk id Q) ρ h
 | .loop b,.loop js x,Q,ρ,h=>fQ (js.all λs=>lU (fL b) s.1)
  (Yp (lP js) (λI=>rr js ρ I h) λJ=>lam (lP js) λvs h'=>gO P N b x (uw (λρ' h''=>rr js ρ' J h'') Q) (im (ρ.dT (fL b)) js vs) h')
 | _,_,_,_,_=>False
theorem N7 {F:Fence}{c:Code}{Q:Exit->Act->World->Prop}{a:Act}{w:World}(I:Nat->Act->World->Prop)(h0:∃n,I n a w)
 (round:∀n a w,I n a w->c.wpIn F m0 P (Exit.then (λa' w'=>∃m,m<n/\I m a' w') Q) a w):(Code.loop c).wpIn F m0 P Q a w:=by
 refine wpIn_loop (λa w=>∃n,I n a w) (λa w=>tB λn=>I n a w) h0 λa w g=>?_;refine wpIn_mono (round _ a w (Cu g)) λe a' w' d=>?_;cases e<;>try exact d
 obtain⟨m,i,b⟩:=d;exact⟨⟨m,b⟩,yI (EM b) i⟩
theorem Kh {N:Nat}:∀(c:Code) {x:Hn} {Q:Exit->Env->Hp->Prop} {Q':Exit->Act->World->Prop} {ρ:Env} {a:Act} {w:World},
 gO P N c x Q ρ w.heap->Fits N ρ a->(∀e ρ' a' w',Fits N ρ' a'->Xb w w'->KF (fL c) ρ ρ'->Q e ρ' w'.heap->Q' e a' w')->c.wpIn (Fw none) m0 P Q' a w
 | .skip,x,Q,Q',ρ,a,w,h,hf,hq=>by
  have h':Q .normal ρ w.heap:=by cases x<;>exact h
  exact wpIn_skip (hq _ ρ a w hf (.refl _) (.refl _ _) h')
 | .ret,x,Q,Q',ρ,a,w,h,hf,hq=>by
  have h':Q .ret ρ w.heap:=by cases x<;>exact h
  exact wpIn_ret (hq _ ρ a w hf (.refl _) (.refl _ _) h')
 | .exit id,x,Q,Q',ρ,a,w,h,hf,hq=>by
  have h':Q (.exit id) ρ w.heap:=by cases x<;>exact h
  exact wpIn_exit (hq _ ρ a w hf (.refl _) (.refl _ _) h')
 | .region id ops d,x,Q,Q',ρ,a,w,h,hf,hq=>by
  cases x
  case cR r=>
   have h':mo P N r ops d ρ w.heap λρ' h'=>Q .normal ρ' h':=by cases d<;>simpa only[gO]using h
   exact wpIn_wide.2 (Cy h' hf λρ' a' w' b j s g=>hq _ ρ' a' w' b j s g)
  case leaf=>
   cases d<;>simp only[gO]at h
   refine wpIn_region_list (D9 h hf λρ' a' w' b j s g=>hq _ ρ' a' w' b j s g)
  all_goals (cases d<;>simp only[gO]at h)
 | .seq c1 c2,x,Q,Q',ρ,a,w,h,hf,hq=>by
  cases x<;>simp only[gO]at h
  refine wpIn_seq (Kh c1 h hf λe ρ' a' w' b j s g=>?_);cases e
  case normal=>exact Kh c2 g b λe ρ'' B A p u E F=>hq e ρ'' B A p (j.trans u) (s.trans E) F
  all_goals exact hq _ ρ' a' w' b j (s.mono λi z=>ke _ z) g
 | .cond c c1 c2,x,Q,Q',ρ,a,w,h,hf,hq=>by
  cases x<;>simp only[gO]at h
  obtain⟨t,U,h⟩:=Kj h;refine wpIn_cond_split (hf.ev _ _ U) (λe=>?_) (λe=>?_)
  ·exact Kh c1 (h.t e) hf λe ρ' a' w' b j s g=>hq e ρ' a' w' b j (s.mono λi z=>ke _ z) g
  ·exact Kh c2 (h.f e) hf λe ρ' a' w' b j s g=>hq e ρ' a' w' b j (s.mono λi z=>nI _ z) g
 | .block id c1,x,Q,Q',ρ,a,w,h,hf,hq=>by
  cases x<;>simp only[gO]at h
  refine wpIn_block (Kh c1 h hf λe ρ' a' w' b j s g=>?_);cases e
  case exit i=>
   simp only[wk]at g;simp only[Exit.inBlock];split at g
   ·rename_i e;have G:i=id:=zt e;rw[zC G];exact hq _ ρ' a' w' b j s g
   ·rename_i e;have G:i≠id:=λh=>by subst h;simp at e
    rw[zB G];exact hq _ ρ' a' w' b j s g
  all_goals exact hq _ ρ' a' w' b j s g
 | .loop c1,x,Q,Q',ρ,a,w,h,hf,hq=>by
  cases x<;>simp only[gO]at h
  rename_i js x;rw[Wu]at h;obtain⟨L,I,μ,J,R⟩:=h;refine N7 (λn a' w'=>∃vs,Fits N (im (ρ.dT (fL c1)) js vs) a'/\Xb w w'/\Sat (lP js) (HL (lP js) I μ (· = n)) vs w'.heap) ?_ ?_
  ·obtain⟨vs,V,J⟩:=Uy J;obtain⟨n,M⟩:=UH μ J;exact⟨n,vs,Q7 js (hf.weaken (GG _ _)) hf V,.refl _,M⟩
  ·rintro n a' w' ⟨vs,b,j,M⟩;have:=VB (M.mono (R n));have S:=(Uh (fL c1) ρ).trans (Kf (fL c1) js (ρ.dT (fL c1)) vs L);refine Kh c1 this b λe ρ'' B A p u s g=>?_;have y:KF (fL c1) ρ ρ'':=(S.trans s).mono λi z=>by
    simp only[zK]at z;rcases z with(h|h)|h<;>exact h
   cases e
   case normal=>
    obtain⟨H,K,D⟩:=Uy g;obtain⟨m,W,C⟩:=Hi D;exact⟨m,W,H,Q7 js (Vt p y) p K,j.trans u,C⟩
   all_goals exact hq _ ρ'' B A p (j.trans u) y g
 | .scope ..,x,Q,Q',ρ,a,w,h,hf,hq=>(by cases x<;>simp only[gO]at h)
 | .label ..,x,Q,Q',ρ,a,w,h,hf,hq=>(by cases x<;>simp only[gO]at h)
 | .rangeFunc ..,x,Q,Q',ρ,a,w,h,hf,hq=>(by cases x<;>simp only[gO]at h)
 | .goto ..,x,Q,Q',ρ,a,w,h,hf,hq=>(by cases x<;>simp only[gO]at h)
 | .refuse ..,x,Q,Q',ρ,a,w,h,hf,hq=>(by cases x<;>simp only[gO]at h)
def BP (P:Program)(f:Nat)(args:Array Value)(h:Hp)(R:aP):Prop:=
 ∀w:World,w.heap=h->∀m,CallsIn Fence.wide m P f args w λe w'=>Xb w w'/\(∃v,e=.returned v)/\R w'.heap
def Cs (P:Program)(fn:Func)(x:Hn)(args:List Value)(R:aP)(h:Hp):Prop:=
 match fn.body with
 | some c=>fQ (Nat.ble args.length fn.ntmps&&fn.results.isEmpty) (gO P fn.ntmps c x (λe ρ h=>match e with | .normal=>R h | .ret=>R h|_=>False) (HP args) h)
 | none=>False
theorem Jh {f:Nat}{fn:Func}{x:Hn}{args:List Value}{R:aP}{h:Hp}(hfn:P.funcs[f]?=some fn)(hk:Cs P fn x args R h):BP P f args.toArray h R:=by
 intro w hw m;subst hw;unfold Cs at hk;split at hk
 case h_2=>exact hk.elim
 rename_i c hb;rw[Wu]at hk;obtain⟨d,hk⟩:=hk;simp only[zF,xT]at d;have s:args.length<=fn.ntmps:=xz d.1;refine callsIn_of_wp_marks hfn hb trivial ?_;have a:∀b w,(results fn b).run P w=.ok (.tuple #[]) w:=λb w=>by
  simp[results,d.2]
 refine Kh c hk (ρ:=HP args) ⟨rfl,by simp;omega,λi v g=>?_⟩ λe B r z y u A p=>?_
 ·simp only[HP]at g;have j:i<args.length:=(cW.1 g).1;rw[td (by simpa using j)];simpa using g
 ·cases e
  case normal=>
   show LeavesInM _ _ _ _ _ _ r.defers _ _;rw[y.defers];exact⟨_,a _ _,u,⟨_,rfl⟩,p⟩
  case ret=>
   show LeavesInM _ _ _ _ _ _ r.defers _ _;rw[y.defers];exact⟨_,a _ _,u,⟨_,rfl⟩,p⟩
  all_goals exact p.elim
end Go.Vc
namespace Go.Vc
open Go
variable {m0:Nat}{P:Program}
def vA (P:Program)(fv:Fv)(xs:List (List Value))(Kp:aP):Prop:=
 ∀(l:Nat) (J:Nat->Hp->Prop),(∀k h h',J k h->bK h h'->J k h')->(∀k h,J k h->Kp h) →
  (∀k x,xs[k]?=some x->∀h,J k h->UW P l x h λb h'=>b=true/\J (k+1) h') →
  ∀h,J 0 h->BP P fv.f (#[.func (.yield l) #[] #[]]++fv.captured) h λh'=>J xs.length h'
def Bv (P:Program){α:Type}(enc:α->List Value)(fv:Fv)(h:Hp)(round:α->(Hp->Prop)->Hp->Prop)(K:aP):Prop:=
 fv.first = #[]/\VI P fv.f=true/\∃(xs:List α) (Kp:aP) (I:Nat->Hp->Prop),vA P fv (xs.map enc) Kp/\(∀k s s',I k s->Ext (λb=>b=h.size\/b=h.size+1) s s'->I k s')/\(∀k s,I k s->Kp s)/\I 0 h ∧
  (∀k x,xs[k]?=some x->∀s,I k s->h.size+2<=s.size->round x (λs'=>I (k+1) s'/\s'[h.size]?=s[h.size]?/\s'[h.size+1]?=s[h.size+1]?) s) ∧
  (∀s,I xs.length s->s[h.size]?=some (.deferred (some []))->K s)
def oQ:List Nat->List Value->Env->Env
 | p::ps,v::vs,ρ=>oQ ps vs (ρ.put p v)
 | _,_,ρ=>ρ
theorem E7 {N:Nat}:∀(ps:List Nat) (vs:List Value) {ρ:Env} {t:Array Value},(∀p∈ps,p<N)->Fits N ρ {tmps:=t,defers:=[]}->Fits N (oQ ps vs ρ) {tmps:=(ps.zip vs).foldl (λt (x:Nat×Value)=>t.setIfInBounds x.1 x.2) t,defers:=[]}
 | [],vs,ρ,t,_,hf=>by cases vs<;>exact hf
 | p::ps,[],ρ,t,_,hf=>hf
 | p::ps,v::vs,ρ,t,hp,hf=>by
  have h1:=hf.put (d:=some p) (show Nat.blt p N=true by rw[Nat.blt_eq];exact hp p pG) v;exact E7 ps vs (λq a=>hp q (np _ a)) h1
def qC (N:Nat):List Oper->Env->Option Env
 | [],ρ=>some ρ
 | o::os,ρ=>match o.op,o.dst,o.guard with
  | .assign x,some d,none=>match ev ρ x with
   | some v=>bif Nat.blt d N then qC N os (ρ.put d v)else none
   | none=>none
  | _,_,_=>none
def pZ (N:Nat):Code->Env->Option Env
 | .region _ ops false,ρ=>qC N ops.toList ρ
 | .skip,ρ=>some ρ
 | _,_=>none
theorem Cv {N:Nat}{F:Fence}{ops:Array Oper}{Q:Exit->Act->World->Prop}(hF:∀f,F.fn f):∀{os:List Oper} {ρ ρ':Env} {a:Act} {w:World},qC N os ρ=some ρ'->Fits N ρ a->(∀a',Fits N ρ' a'->Q .normal a' w)->wpListIn F m0 P ops Q os a w
 | [],ρ,ρ',a,w,h,hf,hq=>by cases h;exact hq a hf
 | o::os,ρ,ρ',a,w,h,hf,hq=>by
  unfold qC at h;split at h
  ·rename_i x d hop hd hg;split at h
   ·rename_i v hv;cases hb:Nat.blt d N with
    | false=>rw[hb]at h;cases h
    | true=>
     rw[hb]at h;have hw:Region.wanted o (yielded ops a.tmps)=true:=by simp[Region.wanted,hg]
     simp only[wpListIn,hw,zR];refine⟨λf _=>hF f,?_⟩;rw[Oper.semAt_eq _ _ _ (λc e=>by rw[hop]at e;cases e)];have g:(execOp a.eval o).run P w=.ok (.value v) w:=by
      unfold execOp;rw[hop];simp only;rw[Sem.run_pure,hf.ev x v hv]
     rw[g];have b:=hf.put (d:=some d) hb v;rw[Oper.uponIn_value,hd];exact Cv hF h b hq
   ·cases h
  ·cases h
theorem O9 {N:Nat}{F:Fence}{c:Code}{Q:Exit->Act->World->Prop}(hF:∀f,F.fn f){ρ ρ':Env}{a:Act}{w:World}(h:pZ N c ρ=some ρ')(hf:Fits N ρ a)(hq:∀a',Fits N ρ' a'->Q .normal a' w):c.wpIn F m0 P Q a w:=by
 unfold pZ at h;split at h
 ·exact wpIn_region_list (Cv hF h hf hq)
 ·cases h;exact wpIn_skip (hq a hf)
 ·cases h
def vC (P:Program)(N n:Nat){α:Type}(enc:α->List Value)(fv:Fv)(ps:Array Nat)(asg bd:Code)(x:Hn)(ρ:Env)(h:Hp)(K:aP):Prop:=
 fQ (Nat.beq ps.toList.length n&&(ps.toList.all (λp=>Nat.blt p N)&&nE P true bd x))
  (Bv P enc fv h (λy J s=>match pZ N asg (oQ ps.toList (enc y) ρ)with
   | some ρ'=>iz P N bd x (λe _ s'=>match e with | .normal=>J s'|_=>False) ρ' s
   | none=>False) K)
theorem HG {w:World}{o:Obj}{b:Nat}(h:b<w.heap.size):(w.alloc o).heap[b]?=w.heap[b]? := by
 show(w.heap.push o)[b]?=w.heap[b]?;rw[vP,zB O]
theorem Uo (w:World)(l:Nat)(o:Obj):Xb w (w.putObj l o):=⟨rfl,rfl,rfl,by simp⟩
theorem yw {w:World}{l:Nat}{o:Obj}{F:Nat->Prop}(hl:F l):Ext F w.heap (w.putObj l o).heap:=⟨by simp,λb d a=>World.putObj_heap_other λe=>a (by rw[e];exact hl)⟩
theorem OQ {N n:Nat}{α:Type}{enc:α->List Value}(henc:∀y,(enc y).length=n){fv:Fv}{g:Operand}{ps:Array Nat}{asg bd:Code}{x:Hn}{ρ:Env}{a:Act}{w:World}{K:aP}{Q:Exit->Act->World->Prop}
 (hg:a.eval g=.func (.func fv.f) fv.first fv.captured) (hf:Fits N ρ a) (h:vC P N n enc fv ps asg bd x ρ w.heap K)
 (hQ:∀w',Xb w w'->w'.heap[w.heap.size]?=some (.deferred (some []))->K w'.heap->Q .normal {a with defers:={target:=.collected w.heap.size,args := #[]}::a.defers} w'):(Code.rangeFunc g ps asg bd).wpIn Fence.wide m0 P Q a w:=by
 unfold vC at h;rw[Wu]at h;obtain⟨hc,B,H,xs,Kp,I,L,m,hKp,h0,r,M⟩:=h;simp only[zF,jW]at hc;obtain⟨hn,aa,hok⟩:=hc;have X:∀y,(enc y).length=ps.size:=λy=>by
  rw[henc y,←zt hn];simp
 rw[B]at hg;refine wpIn_rangeFunc ?_;intro fn hfn;obtain⟨i,d⟩:∃i:LoopState->Option Code->Loop,i=λst pe=>{state:=st,pending:=pe,fn,tmps:=a.tmps,params:=ps,assign:=asg,body:=bd,defers:=w.heap.size}:=⟨_,rfl⟩;obtain⟨W1,j⟩:∃W1,(w.alloc (.deferred (some []))).alloc (.loop (i .ready none))=W1:=⟨_,rfl⟩;have hsz:W1.heap.size=w.heap.size+2:=by rw[←j];simp
 have hL1:W1.heap[w.heap.size+1]?=some (.loop (i .ready none)):=by
  rw[←j];have:=World.alloc_heap_new (w.alloc (.deferred (some []))) (.loop (i .ready none));rwa [World.size_alloc]at this
 have ab:W1.heap[w.heap.size]?=some (.deferred (some [])):=by
  rw[←j];exact(HG aA).trans (World.alloc_heap_new w _)
 have hE1:bK w.heap W1.heap:=⟨O,λb A _=>by
  rw[←j];exact(HG aE).trans (HG A)⟩
 have ac:Xb w W1:=⟨by rw[←j];rfl,by rw[←j];rfl,by rw[←j];rfl,O⟩;have R:∀{s s':Hp},bK s s'->Ext (λb=>b=w.heap.size\/b=w.heap.size+1) s s':=λe=>⟨e.1,λb A _=>e.2 b A id⟩;have bR:∀{s s':Hp} {b:Nat} {o:Obj},bK s s'->s[b]?=some o->s'[b]?=some o:=λe A=>(e.2 _ (j3.1 A).1 id).trans A;refine⟨w.heap.size+1,[{target:=.collected w.heap.size,args := #[]}],W1,{target:=.fn (.func fv.f) fv.captured,args := #[.func (.yield (w.heap.size+1)) #[] #[]]},W1,fv.f,
  #[.func (.yield (w.heap.size+1)) #[] #[]]++fv.captured,W1,?_,?_,λ_ _=>trivial,?_,λh=>by simp[Fence.wide]at h,?_⟩
 ·rw[←j,d];exact run_enterLoop_outer _ _ _ _ _
 ·simp only[resolve,hg];simp[go_sem]
 ·simp only[invoke];exact Vd H _ _
 ·refine(L (w.heap.size+1) (λk s=>I k s/\s[w.heap.size+1]?=some (.loop (i .ready none))/\s[w.heap.size]?=some (.deferred (some [])))
   (λk s s' S e=>⟨m k s s' S.1 (R e),bR e S.2.1,bR e S.2.2⟩) (λk s S=>hKp k s S.1) ?_ W1.heap ⟨m 0 _ _ h0 (R hE1),hL1,ab⟩ W1 rfl (m0-1)).mono ?_
  ·rintro k xv hx s ⟨hI,hl,hk⟩ W rfl;rw[zg,ot]at hx;obtain⟨y,hy,rfl⟩:=hx;have Z:w.heap.size+1<W.heap.size:=(j3.1 hl).1;have V:=run_yield (P:=P) (args:=(enc y).toArray) hl (by rw[d];simpa using X y);rw[d]at V;refine⟨fn,_,asg,bd,V,roundIn_of_wpIn trivial ?_⟩;have hr:=r k y hy;cases hasg:pZ N asg (oQ ps.toList (enc y) ρ)with
   | none=>
    have:=hr W.heap hI O;simp only[hasg]at this
   | some ρ'=>
    have hfp:Fits N (oQ ps.toList (enc y) ρ) {tmps:=(ps.zip (enc y).toArray).foldl (λtmps (t,a)=>tmps.setIfInBounds t a) a.tmps,defers:=[]}:=by
     have h1:=E7 ps.toList (enc y) (t:=a.tmps) (λp hp=>by have:=aa p hp;rwa [Nat.blt_eq]at this) (by
      have:=hf;exact⟨rfl,this.size,this.at_⟩)
     have h2:(ps.zip (enc y).toArray).foldl (λtmps (t,a)=>tmps.setIfInBounds t a) a.tmps=(ps.toList.zip (enc y)).foldl (λt (x:Nat×Value)=>t.setIfInBounds x.1 x.2) a.tmps:=by
      rw[←Array.foldl_toList];simp
     rw[h2];exact h1
    refine O9 (F:=Fence.wide.inRound (w.heap.size+1)) (λf=>trivial) hasg hfp λa1 G=>⟨_,run_beginRound hl (by rw[d]),?_⟩;have E:(W.putObj (w.heap.size+1) (.loop {i .ready none with state:=.busy})).heap[w.heap.size+1]?=some (.loop {i .ready none with state:=.busy}):=World.putObj_heap_same Z;have z:(W.putObj (w.heap.size+1) (.loop {i .ready none with state:=.busy})).heap[w.heap.size]?=some (.deferred (some [])):=(World.putObj_heap_other O).trans hk;have A:=hr (W.putObj (w.heap.size+1) (.loop {i .ready none with state:=.busy})).heap (m k _ _ hI (yw (.inr rfl))) (by rw[World.putObj_size];omega);simp only[hasg]at A;refine QQ (ro:=some (w.heap.size+1)) (m0:=0) (ds:=[]) bd A hok ⟨by rw[VL G.defers];exact G,G.defers⟩ λe ρ2 a2 w2 hf2 D hq=>?_;cases e
    case normal=>
     obtain⟨C,U,J⟩:=hq;rw[E]at J;rw[z]at U;have u:=run_endRound (P:=P) none J;refine⟨_,_,u,((Uo _ _ _).trans D).trans (Uo _ _ _),true,rfl,rfl,m _ _ _ C (yw (.inr rfl)),?_,(World.putObj_heap_other O).trans U⟩;rw[World.putObj_heap_same (j3.1 J).1,d];rfl
    all_goals exact hq.elim
  ·rintro e W2 ⟨D,⟨v,rfl⟩,C,E,z⟩;have u:=run_endLoop (P:=P) E (by rw[d];simp);refine⟨none,_,by rw[d]at u;exact u,?_⟩;have hlt2:=(j3.1 z).1;rw[zl]at C;have Y:∀o,(W2.putObj (w.heap.size+1) o).heap[w.heap.size]?=some (.deferred (some [])):=λo=>(World.putObj_heap_other O).trans z;exact hQ _ ((ac.trans D).trans (Uo _ _ _)) (Y _) (M _ (m _ _ _ C (yw (.inr rfl))) (Y _))
def tI (D:Nat)(s:Hp)(K:aP):Prop:=s[D]?=some (.deferred (some []))/\K (s.setIfInBounds D (.deferred none))
def oz (P:Program)(fn:Func)(rs:List SK)(R:eR (eT rs))(D:Nat):Exit->Env->Hp->Prop
 | .normal,ρ,h=>tI D h λh'=>lE P fn.results.toList rs ρ h' λvs=>rj (eT rs) R vs h'
 | .ret,ρ,h=>tI D h λh'=>lE P fn.results.toList rs ρ h' λvs=>rj (eT rs) R vs h'
 | _,_,_=>False
inductive TX where
 | nx (x:Hn) (t:TX)
 | r1 (y:Hn) (c:CK) (bd b:Hn)
 | r2 (y:Hn) (c d:CK) (bd b:Hn)
def e1 (c:CK)(y:c.T):List Value:=[c.v y]
def e2 (c d:CK)(y:c.T×d.T):List Value:=[c.v y.1,d.v y.2]
def sg (P:Program)(fn:Func)(rs:List SK)(R:eR (eT rs)):Code->TX->Env->Hp->Prop
 | .seq a b,.nx x t,ρ,h=>iz P fn.ntmps a x (uw (λρ' h'=>sg P fn rs R b t ρ' h') (oh P fn rs R)) ρ h
 | .seq (.seq r (.block _ (.rangeFunc g ps asg bd))) b,.r1 y c yb yc,ρ,h=>iz P fn.ntmps r y (λe ρ' h'=>match e with
  | .normal=>wv (ev ρ' g) λvg=>mO .fn vg λfv=>fQ (nE P false b yc) (vC P fn.ntmps 1 (e1 c) fv ps asg bd yb ρ' h' λs=>iz P fn.ntmps b yc (oz P fn rs R h'.size) ρ' s)
  | _=>False) ρ h
 | .seq (.seq r (.block _ (.rangeFunc g ps asg bd))) b,.r2 y c d yb yc,ρ,h=>iz P fn.ntmps r y (λe ρ' h'=>match e with
  | .normal=>wv (ev ρ' g) λvg=>mO .fn vg λfv=>fQ (nE P false b yc) (vC P fn.ntmps 2 (e2 c d) fv ps asg bd yb ρ' h' λs=>iz P fn.ntmps b yc (oz P fn rs R h'.size) ρ' s)
  | _=>False) ρ h
 | _,_,_,_=>False
theorem UR {fn:Func}{rs:List SK}{R:eR (eT rs)}{w0:World}{e:Exit}{ρ:Env}{a:Act}{w:World}(hf:Fits fn.ntmps ρ a)(io:Xb w0 w)(h:oh P fn rs R e ρ w.heap) :
 bodyPostM Fence.wide m0 P fn (λe w'=>Xb w0 w'/\∃vs,e=.returned (pack rs vs)/\Sat (eT rs) R vs w'.heap) e a w:=by
 cases e<;>simp only[oh]at h
 case normal=>
  obtain⟨vs,b,d⟩:=KW hf h;show LeavesInM _ _ _ _ _ _ a.defers _ _;rw[hf.defers];exact⟨_,d,io,vs,rfl,UI b⟩
 case ret=>
  obtain⟨vs,b,d⟩:=KW hf h;show LeavesInM _ _ _ _ _ _ a.defers _ _;rw[hf.defers];exact⟨_,d,io,vs,rfl,UI b⟩
theorem NY {fn:Func}{rs:List SK}{R:eR (eT rs)}{w0:World}{D:Nat}{e:Exit}{ρ:Env}{a:Act}{w:World}(hf:lu [{target:=.collected D,args := #[]}] fn.ntmps ρ a)(io:Xb w0 w)(h:oz P fn rs R D e ρ w.heap) :
 bodyPostM Fence.wide m0 P fn (λe w'=>Xb w0 w'/\∃vs,e=.returned (pack rs vs)/\Sat (eT rs) R vs w'.heap) e a w:=by
 have b:∀{K:List Value->Prop},(tI D w.heap λi=>lE P fn.results.toList rs ρ i λvs=>rj (eT rs) R vs i) →
  LeavesInM Fence.wide m0 P fn a.tmps (λe w'=>Xb w0 w'/\∃vs,e=.returned (pack rs vs)/\Sat (eT rs) R vs w'.heap) a.defers .returning w:=by
  intro K hd;obtain⟨m,g⟩:=hd;rw[hf.d];obtain⟨vs,p,j⟩:=KW (w:=w.putObj D (.deferred none)) hf.f g;exact⟨by simp,.inl ⟨_,_,rfl,run_takeDeferred m,_,j,io.trans (Uo _ _ _),vs,rfl,UI p⟩⟩
 cases e<;>simp only[oz]at h
 case normal=>exact b (K:=λ_=>True) h
 case ret=>exact b (K:=λ_=>True) h
theorem NH {fn:Func}{rs:List SK}{R:eR (eT rs)}{w0:World}:∀(c:Code) {t:TX} {ρ:Env} {a:Act} {w:World},sg P fn rs R c t ρ w.heap->Fits fn.ntmps ρ a->Xb w0 w →
 c.wpIn Fence.wide m0 P (bodyPostM Fence.wide m0 P fn (λe w'=>Xb w0 w'/\∃vs,e=.returned (pack rs vs)/\Sat (eT rs) R vs w'.heap)) a w:=by
 intro c;have L:∀{α:Type} {n:Nat} {enc:α->List Value} (henc:∀y,(enc y).length=n) {r b:Code} {y yb yc:Hn} {id:Nat} {g:Operand} {ps:Array Nat} {asg bd:Code} {ρ:Env} {a:Act} {w:World},
  iz P fn.ntmps r y (λe u J=>match e with
   | .normal=>wv (ev u g) λK=>mO .fn K λM=>fQ (nE P false b yc) (vC P fn.ntmps n enc M ps asg bd yb u J λs=>iz P fn.ntmps b yc (oz P fn rs R J.size) u s)
   | _=>False) ρ w.heap->Fits fn.ntmps ρ a->Xb w0 w →
  (Code.seq (.seq r (.block id (.rangeFunc g ps asg bd))) b).wpIn Fence.wide m0 P (bodyPostM Fence.wide m0 P fn (λe w'=>Xb w0 w'/\∃vs,e=.returned (pack rs vs)/\Sat (eT rs) R vs w'.heap)) a w:=by
  intro α n enc henc r b y yb yc id g ps asg bd ρ a w h hf io;refine wpIn_seq (wpIn_seq (wpIn_wide.2 (Qh r h hf λe u D w' j m Q p=>?_)));cases e
  case normal=>
   obtain⟨K,S,F⟩:=Wr p;obtain⟨M,rfl,z⟩:=Vp F;rw[Wu]at z;obtain⟨G,E⟩:=z;refine wpIn_block (OQ henc (j.ev _ _ S) j E λZ C W N=>?_);have B:lu [{target:=.collected w'.heap.size,args := #[]}] fn.ntmps u {D with defers:={target:=.collected w'.heap.size,args := #[]}::D.defers}:=
    ⟨⟨rfl,j.size,j.at_⟩,by simp only[j.defers]⟩
   exact QQ (ro:=none) (ds:=[{target:=.collected w'.heap.size,args := #[]}]) b N G B λe Y X V H A U=>NY H (((io.trans m).trans C).trans A) U
  all_goals exact p.elim
 induction c with
 | seq a b iha ihb=>
  intro t ρ act w h hf io;cases t with
  | nx x t=>
   simp only[sg]at h;refine wpIn_seq (wpIn_wide.2 (Qh a h hf λe u D w' j m Q p=>?_));cases e
   case normal=>exact ihb p j (io.trans m)
   case ret=>exact UR (m0:=m0) (P:=P) (e:=.ret) (R:=R) j (io.trans m) p
   case exit i=>exact UR (m0:=m0) (P:=P) (e:=.exit i) (R:=R) j (io.trans m) p
   case goto i=>exact UR (m0:=m0) (P:=P) (e:=.goto i) (R:=R) j (io.trans m) p
   case panic i=>exact UR (m0:=m0) (P:=P) (e:=.panic i) (R:=R) j (io.trans m) p
   case outgrown=>exact UR (m0:=m0) (P:=P) (e:=.outgrown) (R:=R) j (io.trans m) p
  | r1 y c yb yc=>
   unfold sg at h;split at h
   case h_1 hx=>cases hx
   case h_2 heq hx=>cases heq;cases hx;exact L (n:=1) (enc:=e1 _) (λ_=>rfl) h hf io
   case h_3 hx=>cases hx
   case h_4=>exact h.elim
  | r2 y c d yb yc=>
   unfold sg at h;split at h
   case h_1 hx=>cases hx
   case h_2 hx=>cases hx
   case h_3 heq hx=>cases heq;cases hx;exact L (n:=2) (enc:=e2 _ _) (λ_=>rfl) h hf io
   case h_4=>exact h.elim
 | _=>intro t ρ act w h hf io;cases t<;>simp[sg]at h
def CP (P:Program)(fn:Func)(x:TX)(args:List Value)(rs:List SK)(R:eR (eT rs))(h:Hp):Prop:=
 match fn.body with
 | some c=>fQ (Nat.ble args.length fn.ntmps) (sg P fn rs R c x (HP args) h)
 | none=>False
theorem CN {f:Nat}{fn:Func}{x:TX}{args:List Value}{rs:List SK}{R:eR (eT rs)}{h:Hp}(hfn:P.funcs[f]?=some fn)(hk:CP P fn x args rs R h):Wc P f args.toArray rs h R:=by
 intro w hw;subst hw;unfold CP at hk;split at hk
 case h_2=>exact hk.elim
 rename_i c hb;rw[Wu]at hk;obtain⟨a,hk⟩:=hk;have e:args.length<=fn.ntmps:=xz a;refine callsIn_wide.1 (callsIn_of_wp_marks (n:=0) hfn hb trivial (NH c hk ⟨rfl,by simp;omega,λi v b=>?_⟩ (.refl _)));simp only[HP]at b;have d:i<args.length:=(cW.1 b).1;rw[td (by simpa using d)];simpa using b
end Go.Vc
namespace Go.Proofs
open Go.Vc
set_option maxRecDepth 100000
def WS.h:Hn:=.q .o1 (.q (.q .o3 .aJ) (.q (.q .o1 (.k (.loop [(3,.I)] (.q (.q .o4 (.c .l .l)) (.q (.k (.q (.oq 10) (.c (.q .o4 (.q (.q .o1 (.k (.loop [(3,.I),(5,.I)] (.q (.q .o4 (.c .l .l)) (.q (.k (.q (.oq 10) (.c (.q .o8 .o3) .l))) .o3))))) (.q .o4 (.q .o4 .l)))) .l))) .o3))))) .aL))
def WS.v (a:Sl)(b:Hp)(c:Sl->Hp->Prop):Prop:=If (((a.len:Nat):Int)<2) (c a b) (Yp [bN] (λd=>d 1 b) λe (f:Int) g=>If (f<((a.len:Nat):Int)) (Ix a.a a.len f 1 λh=>bM h g λi=>bL (f-1) λj=>Ix a.a a.len j 1 λk=>bM k g λl=>If (i==l) (eY a 1 f (a.len:Nat) (a.cap:Nat) λm=>Yp [bN,bN] (λn=>n f 1 g) λo (p:Int) (q:Int) r=>If (q<((m.len:Nat):Int)) (Ix m.a m.len q 1 λs=>bM s r λt=>bL (q-1) λu=>Ix m.a m.len u 1 λv=>bM v r λw=>If (t != w) (Ix m.a m.len q 1 λx=>bM x r λy=>Ix a.a a.len p 1 λz=>dX z (.I y) r λaa=>bL (p+1) λab=>bL (q+1) λac=>o ab ac aa) (bL (q+1) λad=>o p ad r)) (eY a 1 p (a.len:Nat) (a.cap:Nat) λae=>xN ae [.I 0] r λaf=>eY a 1 0 p (a.cap:Nat) λag=>c ag af)) (bL (f+1) λah=>e ah g)) (c a g))
theorem WS.o {a b c}(d:WS.v a b c):WS.c a b c:=Wa Tryz.func55 (x:=WS.h) (R0 d)
def ZW.wG (l:Nat)(cap0:Addr)(U:Hp)(R:aP):Prop:=
 kZ cap0 U λt4=>
 nC .i64 (.ag 5) t4 U λit v=>
 Yp [] (λI=>I v) λJ v1=>
 nF .i64 (.ag 5) it v1 (R v1)
  (λkey val v2=>
  nJ .i64 (.ag 5) it v2 λkey1 val1=>
  UW Tryz.prog l [.int .i64 key1] v2 λmore v3=>
  If (!more) (R v3)
   (J v3))
def Qb.wG (l:Nat)(cap0:Addr)(U:Hp)(R:aP):Prop:=
 kZ cap0 U λt4=>
 nC .i64 (.ag 4) t4 U λit v=>
 Yp [] (λI=>I v) λJ v1=>
 nF .i64 (.ag 4) it v1 (R v1)
  (λkey val v2=>
  nJ .i64 (.ag 4) it v2 λkey1 val1=>
  UW Tryz.prog l [.int .i64 key1] v2 λmore v3=>
  If (!more) (R v3)
   (J v3))
def Wi.h:Hn:=.q .o1 (.q (.q .o2 .aK) (.q .o4 .l))
def Wi.v (a:Sl)(b:Hp)(c:Sl->Hp->Prop):Prop:=If a.a.isNone (c ⟨none,0,0⟩ b) (aV #[] 137 b λd e=>App ⟨some d,0,0⟩ 3 24 137 [.I 0,.I 0,.I 0] a e λf g=>c f g)
theorem Wi.o {a b c}(d:Wi.v a b c):Wi.c a b c:=Wa Tryz.func93 (x:=Wi.h) (R0 d)
def WD.h:Hn:=.q .o1 (.q (.q .o2 .aK) (.q .o4 .l))
def WD.v (a:Sl)(b:Hp)(c:Sl->Hp->Prop):Prop:=If a.a.isNone (c ⟨none,0,0⟩ b) (aV #[] 3 b λd e=>App ⟨some d,0,0⟩ 1 8 3 [.I 0] a e λf g=>c f g)
theorem WD.o {a b c}(d:WD.v a b c):WD.c a b c:=Wa Tryz.func98 (x:=WD.h) (R0 d)
def Wj.h:Hn:=.q .o2 (.q .o5 .l)
def Wj.v (a:Sl)(b c:Bool)(d:Hp)(e:aO):Prop:=aV #[.bool b,.bool c] 161 d λf g=>aZ f 0 g λh=>aZ f 1 g λi=>Wn.c a h i g λj k=>e (decide (j≥0)) k
theorem Wj.o {a b c d e}(f:Wj.v a b c d e):Wj.c a b c d e:=Wa Tryz.func130 (x:=Wj.h) (R0 f)
def Wq.h:Hn:=.q .o1 (.q (.q .o2 .aK) (.q .o4 .l))
def Wq.v (a:Sl)(b:Hp)(c:Sl->Hp->Prop):Prop:=If a.a.isNone (c ⟨none,0,0⟩ b) (aV #[] 135 b λd e=>App ⟨some d,0,0⟩ 2 32 135 [.I 0,.slice none 0 0] a e λf g=>c f g)
theorem Wq.o {a b c}(d:Wq.v a b c):Wq.c a b c:=Wa Tryz.func161 (x:=Wq.h) (R0 d)
def Wn.h:Hn:=.q .o2 (.q (.q .o3 (.k (.loop [(8,.I)] (.q .o1 (.q (.c .l .l) (.q (.k (.q .o2 (.q (.oq 6) .aJ))) .o2)))))) .aM)
def Wn.v (a:Sl)(b c:Bool)(d:Hp)(e:aN):Prop:=aV #[.bool b,.bool c] 161 d λf g=>Yp [bN] (λh=>h 0 g) λi (j:Int) k=>If (j<((a.len:Nat):Int)) (aZ f 0 k λl=>aZ f 1 k λm=>Ix a.a a.len j 2 λn=>aZ n 0 k λo=>aZ n 1 k λp=>If ((l==o)&&((m==p)&&true)) (e j k) (bL (j+1) λq=>i q k)) (e (-1) k)
theorem Wn.o {a b c d e}(f:Wn.v a b c d e):Wn.c a b c d e:=Wa Tryz.func190 (x:=Wn.h) (R0 f)
def Wl.h:Hn:=.q .o1 (.q (.q .o3 (.k (.loop [(8,.I)] (.q .o1 (.q (.c .l .l) (.q (.k (.q .o2 (.q .o6 .aJ))) .o2)))))) .aM)
def Wl.v (a:Sl)(b:Fv)(c:Hp)(d:aN):Prop:=Yp [bN] (λe=>e 0 c) λf (g:Int) h=>If (g<((a.len:Nat):Int)) (Ix a.a a.len g 3 λi=>aQ i 0 h λj=>aQ i 1 h λk=>aQ i 2 h λl=>VH Tryz.prog b [.agg #[.I j,.I k,.I l]] [.one .b] h λm n=>If m (d g n) (bL (g+1) λo=>f o n)) (d (-1) h)
theorem Wl.o {a b c d}(e:Wl.v a b c d):Wl.c a b c d:=Wa Tryz.func202 (x:=Wl.h) (R0 e)
def WT.h:Hn:=.q .o5 (.k (.loop [(2,.I),(3,.I)] (.q (.q .o3 (.c .l .l)) (.q (.k (.cR (.held true [13,15] (.tk [0,1,2,3,4,5,6,7,8,9,10,11,12] (.all [(13,.take 14 (.all [(15,.done)]))]))))) .o6))))
def WT.v (a:Sl)(b:Hp)(c:aP):Prop:=bL (((a.len:Nat):Int)-1) λd=>Yp [bN,bN] (λe=>e 0 d b) λf (g:Int) (h:Int) i=>If (g<h) (eO i λj=>Ix a.a a.len h 1 λk=>gD j bN k λ(l:Int)=>Ix a.a a.len g 1 λm=>gD j bN m λ(n:Int)=>Ix a.a a.len g 1 λo=>dX o (.I l) i λp=>Ix a.a a.len h 1 λq=>dX q (.I n) p λr=>bL (g+1) λs=>bL (h-1) λt=>f s t r) (c i)
theorem WT.o {a b c}(d:WT.v a b c):WT.c a b c:=Wa Tryz.func211 (x:=WT.h) (R0 d)
def We.h:Hn:=.q .o1 (.q .o4 (.q (.q .o2 .aJ) (.q (.q .o3 (.k (.loop [(5,.I),(6,.I)] (.q (.q .o4 (.c .l .l)) (.q (.k (.q .o6 (.q .o4 (.c (.q .o5 .o3) .l)))) .o3))))) (.q .o4 (.q .o4 .l)))))
def We.v (a:Sl)(b:Fv)(c:Hp)(d:Sl->Hp->Prop):Prop:=Wh.c a b c λe f=>If (e==(-1)) (d a f) (bL (e+1) λg=>Yp [bN,bN] (λh=>h e g f) λi (j:Int) (k:Int) l=>If (k<((a.len:Nat):Int)) (Ix a.a a.len k 3 λm=>aQ m 0 l λn=>aQ m 1 l λo=>aY m 2 l λp=>aV #[.I 0,.I 0,.pointer none] 262 l λq r=>aR q 0 (.I n) r λs=>aR q 1 (.I o) s λt=>aR q 2 (.pointer p) t λu=>aQ q 0 u λv=>aQ q 1 u λw=>aY q 2 u λx=>VH Tryz.prog b [.agg #[.I v,.I w,.pointer x]] [.one .b] u λy z=>If (!y) (aQ q 0 z λaa=>aQ q 1 z λab=>aY q 2 z λac=>Ix a.a a.len j 3 λad=>aR ad 0 (.I aa) z λae=>aR ad 1 (.I ab) ae λaf=>aR ad 2 (.pointer ac) af λag=>bL (j+1) λah=>bL (k+1) λai=>i ah ai ag) (bL (k+1) λaj=>i j aj z)) (eY a 3 j (a.len:Nat) (a.cap:Nat) λak=>xN ak [.I 0,.I 0,.pointer none] l λal=>eY a 3 0 j (a.cap:Nat) λam=>d am al))
theorem We.o {a b c d}(e:We.v a b c d):We.c a b c d:=Wa Tryz.func222 (x:=We.h) (R0 e)
def Wk.h:Hn:=.q .o1 (.q (.q .o3 (.k (.loop [(8,.I)] (.q .o1 (.q (.c .l .l) (.q (.k (.q .o2 (.q .o6 .aJ))) .o2)))))) .aM)
def Wk.v (a:Sl)(b:Fv)(c:Hp)(d:aN):Prop:=Yp [bN] (λe=>e 0 c) λf (g:Int) h=>If (g<((a.len:Nat):Int)) (Ix a.a a.len g 1 λi=>fU i h λj=>VH Tryz.prog b [.pointer j] [.one .b] h λk l=>If k (d g l) (bL (g+1) λm=>f m l)) (d (-1) h)
theorem Wk.o {a b c d}(e:Wk.v a b c d):Wk.c a b c d:=Wa Tryz.func249 (x:=Wk.h) (R0 e)
def Wb.h:Hn:=.q .o2 (.q .o3 (.q .o3 (.q (.k (.loop [(9,.I),(10,.I)] (.q (.q .o3 (.c .l .l)) (.k (.q .o7 (.q .o8 (.c .o3 .o2))))))) (.q (.cR (.seq [.op,.op,.op,.op,.op,.cU true 8 (RI.ops 8),.op,.op])) .l))))
def Wb.v (a:Sl)(b:Int)(c:Fv)(d:Hp)(e:Int->Bool->Hp->Prop):Prop:=Yp [bN,bN] (λf=>f 0 ((a.len:Nat):Int) d) λg (h:Int) (i:Int) j=>If (h<i) (bL (h+i) λk=>Ar .u64 k λl=>Nn (1:Int) <| bL (l.fdiv (2^(min (1:Int).toNat IntKind.u64.bits))) λm=>Ix a.a a.len m 3 λn=>aQ n 0 j λo=>aQ n 1 j λp=>aY n 2 j λq=>VH Tryz.prog c [.agg #[.I o,.I p,.pointer q],.I b] [.I] j λr s=>If (r<0) (bL (m+1) λt=>g t i s) (g h m s)) (bV (λu v=>e h u v) λw=>If (h<((a.len:Nat):Int)) (Ix a.a a.len h 3 λx=>aQ x 0 j λy=>aQ x 1 j λz=>aY x 2 j λaa=>VH Tryz.prog c [.agg #[.I y,.I z,.pointer aa],.I b] [.I] j λab ac=>w (ab==0) ac) (w false j))
theorem Wb.o {a b c d e}(f:Wb.v a b c d e):Wb.c a b c d e:=Wa Tryz.func258 (x:=Wb.h) (R0 f)
def Wf.h:Hn:=.q .o1 (.q .o3 (.q .o3 (.q (.q .o2 .aJ) (.q .o3 (.q (.q .o3 (.c (.q .o4 .l) .l)) (.q (.q .o6 (.c (.q .gQ (.q .o5 (.q (.cR (.tail 8 (RI.ops 8) [.op])) .aL))) .l)) (.q .o6 (.q (.q .o8 (.c (.q (.cR (.tail 8 (RI.ops 8) [.op])) (.q .o5 .aL)) .l)) (.q .o5 (.q .o5 .aL))))))))))
def Wf.v (a:Sl)(b:Int)(c:Sl)(d:Hp)(e:Sl->Hp->Prop):Prop:=eY a 3 b (a.len:Nat) (a.cap:Nat) λf=>If (((c.len:Nat):Int)==0) (e a d) (If (b==((a.len:Nat):Int)) (App a 3 24 262 [.I 0,.I 0,.pointer none] c d λg h=>e g h) (bL (((a.len:Nat):Int)+((c.len:Nat):Int)) λi=>If (i>((a.cap:Nat):Int)) (eY a 3 0 b (a.cap:Nat) λj=>bL (((a.len:Nat):Int)+((c.len:Nat):Int)) λk=>bL (k-b) λl=>sJ j 3 24 262 [.I 0,.I 0,.pointer none] l d λm n=>eY m 3 b (m.len:Nat) (m.cap:Nat) λo=>sQ o 3 c n λp q=>bL (b+((c.len:Nat):Int)) λr=>eY m 3 r (m.len:Nat) (m.cap:Nat) λs=>eY a 3 b (a.len:Nat) (a.cap:Nat) λt=>sQ s 3 t q λu v=>e m v) (bL (((a.len:Nat):Int)+((c.len:Nat):Int)) λw=>eY a 3 0 w (a.cap:Nat) λx=>bL (b+((c.len:Nat):Int)) λy=>eY x 3 y (x.len:Nat) (x.cap:Nat) λz=>sM Tryz.prog 288 [.slice c.a c.len c.cap,.slice z.a z.len z.cap] d λaa ab=>If (!aa) (bL (b+((c.len:Nat):Int)) λac=>eY x 3 ac (x.len:Nat) (x.cap:Nat) λad=>eY x 3 b (x.len:Nat) (x.cap:Nat) λae=>sQ ad 3 ae ab λaf ag=>eY x 3 b (x.len:Nat) (x.cap:Nat) λah=>sQ ah 3 c ag λai aj=>e x aj) (eY x 3 ((a.len:Nat):Int) (x.len:Nat) (x.cap:Nat) λak=>sQ ak 3 c ab λal am=>eY x 3 b (x.len:Nat) (x.cap:Nat) λan=>Kb.c an ((c.len:Nat):Int) am λao=>e x ao))))
theorem Wf.o {a b c d e}(f:Wf.v a b c d e):Wf.c a b c d e:=Wa Tryz.func260 (x:=Wf.h) (R0 f)
def Xg.h:Hn:=.q .o1 (.q .o7 .l)
def Xg.v (a:Sl)(b:Hp)(c:Sl->Hp->Prop):Prop:=eY a 1 0 ((a.len:Nat):Int) ((a.len:Nat):Int) λd=>c d b
theorem Xg.o {a b c}(d:Xg.v a b c):Xg.c a b c:=Wa Tryz.func261 (x:=Xg.h) (R0 d)
def Wh.h:Hn:=.q .o1 (.q (.q .o3 (.k (.loop [(8,.I)] (.q .o1 (.q (.c .l .l) (.q (.k (.q .o2 (.q .o6 .aJ))) .o2)))))) .aM)
def Wh.v (a:Sl)(b:Fv)(c:Hp)(d:aN):Prop:=Yp [bN] (λe=>e 0 c) λf (g:Int) h=>If (g<((a.len:Nat):Int)) (Ix a.a a.len g 3 λi=>aQ i 0 h λj=>aQ i 1 h λk=>aY i 2 h λl=>VH Tryz.prog b [.agg #[.I j,.I k,.pointer l]] [.one .b] h λm n=>If m (d g n) (bL (g+1) λo=>f o n)) (d (-1) h)
theorem Wh.o {a b c d}(e:Wh.v a b c d):Wh.c a b c d:=Wa Tryz.func268 (x:=Wh.h) (R0 e)
def Wx.h:Hn:=.q .o1 (.q .o5 .l)
def Wx.v (a:Sl)(b:Fv)(c:Hp)(d:aO):Prop:=WP.c a b c λe f=>d (decide (e≥0)) f
theorem Wx.o {a b c d}(e:Wx.v a b c d):Wx.c a b c d:=Wa Tryz.func270 (x:=Wx.h) (R0 e)
def Wp.h:Hn:=.q .o1 (.q .o5 .l)
def Wp.v (a:Sl)(b:Int)(c:Hp)(d:aO):Prop:=WC.c a b c λe f=>d (decide (e≥0)) f
theorem Wp.o {a b c d}(e:Wp.v a b c d):Wp.c a b c d:=Wa Tryz.func272 (x:=Wp.h) (R0 e)
def XI.h:Hn:=.q .o1 (.kr [] (.q .o3 (.c .o2 .l)) (.q .o4 (.q (.q .o1 (.k (.loop [(3,.I),(4,.I)] (.q (.q .o4 (.c .l .l)) (.q (.k .o7) .o3))))) .aL)))
def XI.v (a:Sl)(b:Hp)(c:aN):Prop:=Jn [] (λd=>Ix a.a a.len 0 1 λe=>bM e d λf=>Yp [bN,bN] (λg=>g f 1 d) λh (i:Int) (j:Int) k=>If (j<((a.len:Nat):Int)) (Ix a.a a.len j 1 λl=>bM l k λm=>bL (j+1) λn=>h (if m<i then m else i) n k) (c i k)) λo=>If (((a.len:Nat):Int)<1) (False) (o b)
theorem XI.o {a b c}(d:XI.v a b c):XI.c a b c:=Wa Tryz.func284 (x:=XI.h) (R0 d)
def WP.h:Hn:=.q .o1 (.q (.q .o3 (.k (.loop [(8,.I)] (.q .o1 (.q (.c .l .l) (.q (.k (.q .o2 (.q .o6 .aJ))) .o2)))))) .aM)
def WP.v (a:Sl)(b:Fv)(c:Hp)(d:aN):Prop:=Yp [bN] (λe=>e 0 c) λf (g:Int) h=>If (g<((a.len:Nat):Int)) (Ix a.a a.len g 1 λi=>bM i h λj=>VH Tryz.prog b [.I j] [.one .b] h λk l=>If k (d g l) (bL (g+1) λm=>f m l)) (d (-1) h)
theorem WP.o {a b c d}(e:WP.v a b c d):WP.c a b c d:=Wa Tryz.func302 (x:=WP.h) (R0 e)
def WC.h:Hn:=.q .o1 (.q (.q .o3 (.k (.loop [(8,.I)] (.q .o1 (.q (.c .l .l) (.q (.k (.q .o2 (.q .o6 .aJ))) .o2)))))) .aM)
def WC.v (a:Sl)(b:Int)(c:Hp)(d:aN):Prop:=Yp [bN] (λe=>e 0 c) λf (g:Int) h=>If (g<((a.len:Nat):Int)) (Ix a.a a.len g 1 λi=>bM i h λj=>If (b==j) (d g h) (bL (g+1) λk=>f k h)) (d (-1) h)
theorem WC.o {a b c d}(e:WC.v a b c d):WC.c a b c d:=Wa Tryz.func303 (x:=WC.h) (R0 e)
def QV.wG (l:Nat)(cap0:Addr)(U:Hp)(R:aP):Prop:=
 kZ cap0 U λt4=>
 nC .i64 .b t4 U λit v=>
 Yp [] (λI=>I v) λJ v1=>
 nF .i64 .b it v1 (R v1)
  (λkey val v2=>
  nJ .i64 .b it v2 λkey1 val1=>
  UW Tryz.prog l [.int .i64 key1] v2 λmore v3=>
  If (!more) (R v3)
   (J v3))
def Wg.h:Hn:=.q .o1 (.q .o5 .l)
def Wg.v (a:Sl)(b:Fv)(c:Hp)(d:aO):Prop:=Wm.c a b c λe f=>d (decide (e≥0)) f
theorem Wg.o {a b c d}(e:Wg.v a b c d):Wg.c a b c d:=Wa Tryz.func308 (x:=Wg.h) (R0 e)
def Wm.h:Hn:=.q .o1 (.q (.q .o3 (.k (.loop [(8,.I)] (.q .o1 (.q (.c .l .l) (.q (.k (.q .o2 (.q .o6 .aJ))) .o2)))))) .aM)
def Wm.v (a:Sl)(b:Fv)(c:Hp)(d:aN):Prop:=Yp [bN] (λe=>e 0 c) λf (g:Int) h=>If (g<((a.len:Nat):Int)) (Ix a.a a.len g 2 λi=>aZ i 0 h λj=>aZ i 1 h λk=>VH Tryz.prog b [.agg #[.bool j,.bool k]] [.one .b] h λl m=>If l (d g m) (bL (g+1) λn=>f n m)) (d (-1) h)
theorem Wm.o {a b c d}(e:Wm.v a b c d):Wm.c a b c d:=Wa Tryz.func322 (x:=Wm.h) (R0 e)
end Go.Proofs
namespace Go.Bu
open Go Go.Vc Go.Proofs
variable {U:Hp}{p n sb:Nat}{S:Nat->Bool}{ms:List Nat}
theorem ma {k:Nat}{K:Int->Prop}(hk:k<=62)(hK:K ((2^k:Nat):Int)):Nn (k:Int) (Ar .i64 (1*2^(min (k:Int).toNat IntKind.i64.bits)) K):=by
 refine nn O ?_;rw[Dt hk];exact cP aA (Ez hk) hK
theorem rW {x k j:Nat}{K:Int->Prop}(hj:j=k)(hk:k<=62)(hx:x<=4611686018427387904)(hK:K ((x/2^k*2^k:Nat):Int)) :
 Ar .i64 (((x:Int).fdiv (2^(min (k:Int).toNat IntKind.i64.bits)))*2^(min (j:Int).toNat IntKind.i64.bits)) K:=by
 subst hj;rw[Dt hk,Ef];refine cP aA ?_ hK;exact ze (xP _ _) hx
theorem BH.rN (h:BH U p n S sb ms){K:Int->Prop}(hK:K (n:Int)):gA .i64 (Addr.add ⟨p,0,none⟩ 0) U K:=fC h.F9 hK
theorem BH.rB (h:BH U p n S sb ms){K:Sl->Prop}(hK:∀cap,K ⟨some ⟨sb,0,none⟩,ms.length,cap⟩):jq (Addr.add ⟨p,0,none⟩ 1) U K:=by
 obtain⟨cap,a⟩:=h.mY;rw[add_lit];exact nq a (hK cap)
theorem BH.rM (h:BH U p n S sb ms){k m:Nat}(hm:ms[k]?=some m){K:Option Nat->Prop}(hK:K (some m)):Ix (some ⟨sb,0,none⟩) ms.length (k:Int) 1 λa=>kZ a U K:=by
 refine ix O (by have:=(cW.1 hm).1;omega) ?_;rw[add_lit];refine D6 ?_ hK;have:=h.PV hm;simpa using this
theorem AV (h:BH U p n S sb ms){R:aO}(hR:R true U):XX.c (aW p) U R:=by
 refine XX.o ?_;unfold XX.v;refine bV.intro (cD rfl (aG (h.rN ?_)));have:=h.n1;rw[zJ O];exact hR
def Zb (n:Nat)(start aF:Int):Bool:=decide (0<=start)&&(decide (1<=aF)&&decide (aF<=n-start))
theorem Ju (h:BH U p n S sb ms)(start aF:Int){R:aN}(h0:Zb n start aF=true->R 0 U)(h1:Zb n start aF=false->R 1 U):YO.c (aW p) start aF U R:=by
 refine YO.o ?_;unfold YO.v;have a:¬(0<=start/\1<=aF/\aF<=n-start)->R 1 U:=λe=>h1 (by simp only[Zb,←uB];exact zM e);have n1:=h.n1;have n2:=h.n2;refine AV h (cB rfl (bV.intro ?_));refine cQ (λh1=>bV.intro (cD rfl (bV.intro (cD rfl (cD rfl (a O)))))) λh1=>?_;refine bV.intro (cQ (λb=>bV.intro (cD rfl (cD rfl (a O)))) λb=>?_);refine aG (h.rN ?_);refine bV.intro (cQ (λd=>cD rfl (a O)) λd=>?_);refine aG (h.rN (ar O O ?_));refine cQ (λg=>a O) λg=>h0 ?_;simp only[Zb,zF,zU];omega
theorem C3 (h:BH U p n S sb ms)(x:Nat)(hx:x<=4611686018427387904){R:Int->Int->Bool->Hp->Prop}
 (h1:∀k q,can S k q=true->x/2^k=q->R (k:Int) ((q*2^k:Nat):Int) true U) (h0:S x=false->R 0 0 false U):Xm.c (aW p) (x:Int) U R:=by
 refine Xm.o ?_;unfold Xm.v;refine aG (h.rB λcap=>?_);refine ZS (a:=bN) (λt s=>∃k:Nat,t=(k:Int)/\k<=ms.length/\s=U/\∀j,j<k->can S j (x/2^j)=false) (λt _=>ms.length-t.toNat) ⟨0,rfl,O,rfl,λj d=>O⟩ ?_;rintro t s ⟨k,rfl,y,rfl,b⟩;have w:=h.len;refine cQ (λr=>?_) (λg=>?_)
 ·simp only at r;obtain⟨m,u⟩:=h.get (k:=k) O;refine h.rM u (nn O (nn O (rW rfl O hx (h.lk u rfl ?_))));cases hc:can S k (x/2^k)
  ·refine cB aA (cP (m:=k+1) O O ?_);refine⟨⟨k+1,rfl,O,rfl,λj d=>?_⟩,O⟩;by_cases e:j=k
   ·rw[e];exact hc
   ·exact b j O
  ·exact cD aA (h1 k _ hc rfl)
 ·simp only at g;refine h0 ?_;cases hs:S x
  ·rfl
  ·obtain⟨j,d⟩:=Ul h.jo hs;have:=h.fits (ZD h.jo (Zu.1 d).1);rw[b j O]at d;cases d
def kY (S:Nat->Bool)(x:Int):Bool:=decide (0<=x)&&S x.toNat
theorem Lx (h:BH U p n S sb ms)(x:Int){R:aO}(hR:R (kY S x) U):Yf.c (aW p) x U R:=by
 refine Yf.o ?_;unfold Yf.v;have n2:=h.n2;refine AV h (bV.intro (cB rfl ?_));refine bV.intro (cQ (λb=>cD rfl ?_) λb=>aG (h.rN ?_))
 ·have:kY S x=false:=by simp[kY];intro;omega
  rw[this]at hR;exact hR
 ·refine cQ (λd=>?_) λd=>?_
  ·have:kY S x=false:=by
    simp only[kY];cases a:S x.toNat
    ·simp
    ·have:=h.jo _ a;omega
   rw[this]at hR;exact hR
  ·obtain⟨y,rfl⟩:=za (show 0<=x by omega);have e:kY S (y:Int)=S y:=by simp[kY]
   rw[e]at hR;refine C3 h y O (λk q g i=>?_) λa=>?_
   ·rw[VJ g i]at hR;exact hR
   ·rw[a]at hR;exact hR
theorem JG {k q:Nat}(h:BH U p n S sb ms)(hf:q*2^k+2^k<=n)(hd:∀x,x/2^k=q->S x=false){R:aP}
 (hR:∀σ',Ext (· ∈ ms) U σ'->BH σ' p n (ins S k q) sb ms->R σ'):Y6.c (aW p) (k:Int) ((q*2^k:Nat):Int) U R:=by
 refine Y6.o ?_;unfold Y6.v;refine UO (a:=bN) (bb:=bN)
  (λo s B=>∃(j r:Nat) (T:Nat->Bool),o=(j:Int)/\s=((r*2^j:Nat):Int)/\r*2^j+2^j<=n/\BH B p n T sb ms/\Ext (· ∈ ms) U B/\(∀x,x/2^j=r->T x=false)/\ins T j r=ins S k q)
  (λo _ _=>ms.length-o.toNat) ⟨k,q,S,rfl,rfl,hf,h,Ext.refl _ _,hd,rfl⟩ ?_
 rintro o s B ⟨j,r,T,rfl,rfl,z,d,N,A,y⟩;have Y:=d.len;have W:=d.fits z;have Q:=d.n2;have X:=kF j;obtain⟨m,C⟩:=d.get W;have w:¬full (ins T j r) (j+1) (r/2)=true->(bU (some ⟨p,0,none⟩) λL=>jq (L.add 1) B λE=>Ix E.a E.len (j:Int) 1 λJ=>kZ J B λG=>kc .i64 .b G ((r*2^j:Nat):Int) true B λv3=>R v3):=by
  intro g;refine aG (d.rB λcap=>d.rM C ?_);refine d.wM C A g z rfl λD e K=>hR D (N.trans e) ?_;rw[←y];exact K
 refine cP (m:=j+1) O O (aG (d.rB λcap=>bV.intro ?_));refine cQ (λH=>?_) (λM=>?_)
 ·simp only at H;refine aG (d.rB λcap=>d.rM C (ma O ?_));have P:=Ez (show j<=62 by omega);have F:bits .xor .i64 ((r*2^j:Nat):Int) ((2^j:Nat):Int)=((gU r*2^j:Nat):Int):=by
   rw[MN O O,Ih]
  rw[F];refine d.lk C rfl ?_;cases hc:can T j (gU r)
  ·refine cB aA (w (JU A (by simp[hc])))
  ·refine cD aA ?_;refine aG (d.rB λcap=>d.rM C (ma O ?_));rw[F];refine d.rK C hc rfl λD e K=>?_;refine cP (m:=j+1) O O (nn O (cP (m:=j+1) O O (nn O ?_)));refine rW rfl O O ?_;refine cP (m:=j+1) O O ⟨⟨j+1,r/2,del T j (gU r),rfl,?_,?_,K,N.trans e,?_,?_⟩,O⟩
   ·rw[lW,←sS,Kw]
   ·-- both halves lie within
    have u:=ZD d.jo (Zu.1 hc).1;have e2:r/2*2^(j+1)=(r/2*2)*2^j:=by rw[lW,Nat.mul_comm (2^j) 2,←wm]
    rw[e2,lW];have g:(r/2*2)+1=r\/(r/2*2)+1=gU r:=by unfold gU;split<;>omega
    have V:(r/2*2)*2^j+2^j*2=((r/2*2)+1)*2^j+2^j:=by rw[zm];omega
    rw[V];rcases g with e4|e4<;>rw[e4]<;>assumption
   ·intro x F;rcases U2.1 F with u|u
    ·simp[del,A x u]
    ·simp[del,u]
   ·rw[←y];refine sx λx=>?_;rw[Vl,Vl,Vm,U2];by_cases u:x/2^j=gU r
    ·simp[u,VJ hc u]
    ·simp[u]
 ·simp only at M;refine cB rfl (w λg=>?_);have:=ZD (DW d.jo z) g;have u:2^ms.length<=2^(j+1):=oe aB O;have:=d.hi;omega
theorem AJ {a m:Nat}(h:BH U p n S sb ms)(hf:a+m<=n)(hd:∀x,a<=x->x<a+m->S x=false){R:aP}
 (hR:∀σ',Ext (· ∈ ms) U σ'->BH σ' p n (dD S a (a+m)) sb ms->R σ'):X9.c (aW p) (a:Int) (m:Int) U R:=by
 refine X9.o ?_;unfold X9.v;have M:=h.n2;refine UO (a:=bN) (bb:=bN)
  (λs c w=>∃(a' r:Nat),s=(a':Int)/\c=(r:Int)/\a<=a'/\a'+r=a+m/\BH w p n (dD S a a') sb ms/\Ext (· ∈ ms) U w)
  (λ_ c _=>c.toNat) ⟨a,m,rfl,rfl,O,rfl,by rw[Nt];exact h,Ext.refl _ _⟩ ?_
 rintro s c w ⟨a',r,rfl,rfl,z,N,G,E⟩;refine cQ (λH=>?_) (λV=>?_)
 ·refine ZS (a:=bN) (λk u=>∃j q:Nat,k=(j:Int)/\a'=q*2^j/\2^j<=r/\u=w) (λk _=>12-k.toNat) ⟨0,a',rfl,by simp,by simp;omega,rfl⟩ ?_;rintro k u ⟨j,q,rfl,Q,L,rfl⟩;have W:j<=10:=by
   apply Classical.byContradiction;intro hc;have:2^11<=2^j:=oe aB O;omega
  refine cP (m:=j+1) O O (nn O (cP (m:=j+1) O O (nn O ?_)));refine rW rfl O O (bV.intro ?_);have g:(Y6.c (aW p) (j:Int) (a':Int) u λv3=>
   Nn (j:Int)<|Ar .i64 (1*2^(min (j:Int).toNat IntKind.i64.bits)) λB=>Ar .i64 ((a':Int)+B) λd=>
   Nn (j:Int)<|Ar .i64 (1*2^(min (j:Int).toNat IntKind.i64.bits)) λC=>Ar .i64 ((r:Int)-C) λb=>
   (∃(a'' m'':Nat),d=(a'':Int)/\b=(m'':Int)/\a<=a''/\a''+m''=a+m/\BH v3 p n (dD S a a'') sb ms/\Ext (· ∈ ms) U v3)/\b.toNat<(r:Int).toNat):=by
   subst Q;refine JG G O (λx P=>?_) λv3 e y=>?_
   ·have:=ZZ.1 P;have J:=hd x O O;simp only[dD,J,xd];rw[zM (show ¬x<q*2^j by omega),tu]
   ·have A:=kF j;refine ma O (cP (m:=q*2^j+2^j) O O (ma O (cP (m:=r-2^j) O O ?_)));refine⟨⟨_,_,rfl,rfl,O,O,?_,E.trans e⟩,O⟩;rw[OA,Rb z O]at y;exact y
  refine cO (λF=>?_) (λF=>cB rfl g);have D:a'/2^(j+1)*2^(j+1)=a':=by
   have:=zS.1 F
   exact_mod_cast this
  refine cP (m:=j+1) O O (ma O ?_);refine cQ (λK=>?_) λ_=>g;refine cP (m:=j+1) O O ⟨⟨j+1,a'/2^(j+1),rfl,D.symm,O,rfl⟩,O⟩
 ·have:r=0:=by omega
  subst this;have:a'=a+m:=by omega
  subst this;exact hR w E G
theorem My {a m:Nat}(h:BH U p n S sb ms)(hf:a+m<=n)(hd:∀x,a<=x->x<a+m->S x=true){R:aP}
 (hR:∀σ',Ext (· ∈ ms) U σ'->BH σ' p n (take S a (a+m)) sb ms->R σ'):Zl.c (aW p) (a:Int) (m:Int) U R:=by
 refine Zl.o ?_;unfold Zl.v;have P:=h.n2;refine ZS (a:=bN) (λs w=>∃x:Nat,s=(x:Int)/\a<=x/\BH w p n (take S a (min x (a+m))) sb ms/\Ext (· ∈ ms) U w)
  (λs _=>a+m-s.toNat) ⟨a,rfl,O,by rw[pB O,N8];exact h,Ext.refl _ _⟩ ?_
 rintro s w ⟨x,rfl,z,d,J⟩;refine cP (m:=a+m) O O ?_;refine cQ (λN=>?_) (λV=>?_)
 ·rw[pB O]at d;have Y:take S a x x=true:=Kq.2 ⟨hd x z O,O⟩;refine C3 d x O (λk q C Z=>?_) (λj=>by rw[Y]at j;cases j);have B:=ZD d.jo (Zu.1 C).1;have X:=d.fits B;have hl:=d.len;obtain⟨mm,K⟩:=d.get X;have L:=ZZ.1 Z;refine aG (d.rB λcap=>d.rM K ?_);refine d.rK K C rfl λh1 e1 F=>?_;refine ma O (cP (m:=q*2^k+2^k) O O (cP (m:=x-q*2^k) O O ?_));refine AJ F O (λy D H=>?_) λh2 e2 e=>?_
  ·have:y/2^k=q:=ZZ.2 O;simp[del,this]
  ·have u:=(J.trans e1).trans e2;rw[show q*2^k+(x-q*2^k)=x by omega]at e;have g:∀y,q*2^k<=y/\y<q*2^k+2^k->S y=true/\¬(a<=y/\y<x):=λy b=>Kq.1 (VJ C (ZZ.2 b));refine cP (m:=a+m) O O (cQ (λW=>?_) λM=>?_)
   ·refine cP (m:=q*2^k+2^k-(a+m)) O O ?_;refine AJ e O (λy D H=>?_) λh3 Q r=>?_
    ·have:y/2^k=q:=ZZ.2 O;have G:¬y<x:=by omega
     simp[dD,del,this,G]
    ·refine⟨⟨_,rfl,O,?_,u.trans Q⟩,O⟩;rw[Nat.min_eq_right O];have:dD (dD (del (take S a x) k q) (q*2^k) x) (a+m) (a+m+(q*2^k+2^k-(a+m)))=take S a (a+m):=by
      refine sx λy=>?_;have b:=g y;simp only[QZ,Vm,Kq,Ne,ZZ];generalize q*2^k=A at *;generalize 2^k=E at *;cases j:S y
      ·rw[j]at b;simp only[zd,false_and,false_or,iff_false,imp_false]at b ⊢;omega
      ·rw[j]at b;simp only[sf]at b ⊢;omega
     rw[this]at r;exact r
   ·refine⟨⟨_,rfl,O,?_,u⟩,O⟩;rw[pB O];have:dD (del (take S a x) k q) (q*2^k) x=take S a (q*2^k+2^k):=by
     refine sx λy=>?_;have b:=g y;simp only[QZ,Vm,Kq,Ne,ZZ];generalize q*2^k=A at *;generalize 2^k=E at *;cases j:S y
     ·rw[j]at b;simp only[zd,false_and,false_or,iff_false,imp_false]at b ⊢;omega
     ·rw[j]at b;simp only[sf]at b ⊢;omega
    rw[this]at e;exact e
 ·rw[Nat.min_eq_right O]at d;exact hR w J d
def oY (S:Nat->Bool)(a m:Nat):Bool:=(List.range m).all λi=>!S (a+i)
theorem KQ {S:Nat->Bool}{a m:Nat}:oY S a m=true↔∀x,a<=x->x<a+m->S x=false:=by
 simp only[oY,jW,zc,mj];exact⟨λh x b d=>by have:=h (x-a) O;rwa [show a+(x-a)=x by omega]at this,λh i e=>h _ O O⟩
theorem Ic {S:Nat->Bool}{a m x:Nat}(h1:a<=x)(h2:x<a+m)(h:S x=true):oY S a m=false:=by
 cases e:oY S a m
 ·rfl
 ·rw[KQ.1 e x h1 h2]at h;cases h
def xo (n:Nat)(S:Nat->Bool)(a m:Int):Int:=if Zb n a m then(if oY S a.toNat m.toNat then 0 else 9)else 1
def Qx (n:Nat)(S:Nat->Bool)(a m:Int):Nat->Bool:=if Zb n a m&&oY S a.toNat m.toNat then dD S a.toNat (a.toNat+m.toNat)else S
theorem RM {n:Nat}{a m:Int}(h:Zb n a m=true):∃x y:Nat,a=(x:Int)/\m=(y:Int)/\1<=y/\x+y<=n:=by
 simp only[Zb,zF,zU]at h;exact⟨a.toNat,m.toNat,O,O,O,O⟩
theorem pT (h:BH U p n S sb ms)(a m:Int){R:aN}
 (hR:∀σ',Ext (· ∈ ms) U σ'->BH σ' p n (Qx n S a m) sb ms->R (xo n S a m) σ'):X0.c (aW p) a m U R:=by
 refine X0.o ?_;unfold X0.v;have E:=h.n2;refine Ju h a m (λb=>cB rfl ?_) (λb=>cD rfl ?_)
 ·obtain⟨x,y,rfl,rfl,G,w⟩:=RM b;refine ZS (a:=bN) (λt s=>∃z:Nat,t=(z:Int)/\x<=z/\s=U/\∀u,x<=u->u<z->S u=false) (λt _=>x+y-t.toNat) ⟨x,rfl,O,rfl,λu _ _=>O⟩ ?_;rintro t s ⟨z,rfl,B,rfl,g⟩;refine cP (m:=x+y) O O ?_;refine cQ (λD=>Lx h _ ?_) (λC=>?_)
  ·have e:kY S (z:Int)=S z:=by simp[kY]
   rw[e];cases hs:S z
   ·refine cB rfl (cP (m:=z+1) O O ⟨⟨z+1,rfl,O,rfl,λu r A=>?_⟩,O⟩);by_cases e:u=z
    ·rw[e];exact hs
    ·exact g u r O
   ·refine cD rfl ?_;have j:=Ic (m:=y) B O hs;have:=hR s (Ext.refl _ _);simp only[xo,Qx,b,dE,j,tu,zR,zd,zy]at this;exact this h
  ·have d:∀u,x<=u->u<x+y->S u=false:=λu r A=>g u r O;have j:=KQ.2 d;refine AJ h w d λr e1 F=>?_;have:=hR r e1;simp only[xo,Qx,b,dE,j,tG,zR]at this;exact this F
 ·have:=hR U (Ext.refl _ _);simp only[xo,Qx,b,uC,zd,zy]at this;exact this h
end Go.Bu
namespace Go.Ar
open Go.Bu
def tD (n:Nat)(h:Int):Bool:=decide (0<=h)&&decide (h<((n/16:Nat):Int))
def j6 (st:List Nat)(h:Int):Int:=if tD st.length h then(if st.getD (16*h.toNat) 0=0 then 0 else 5)else 1
def iQ (st:List Nat)(h:Int):List Nat:=if j6 st h=0 then gg st (16*h.toNat) (16*h.toNat+16) 3 else st
def tC (st:List Nat)(a m:Nat)(fr:List Nat):Bool:=((st.drop a).take m).all fr.contains
def GE (st:List Nat)(a m:Int)(fr:List Nat):Int:=if Zb st.length a m then(if tC st a.toNat m.toNat fr then 0 else 5)else 1
def V2 (st:List Nat)(a m:Int)(v:Nat)(fr:List Nat):List Nat:=if GE st a m fr=0 then gg st a.toNat (a.toNat+m.toNat) v else st
def NM (st:List Nat)(h:Nat):Nat:=if sr st (16*h) (16*h+16) 1=0 then 0 else if 0<sr st (16*h) (16*h+16) 3 then 1 else 2
def Sn (st:List Nat)(k:Nat):List Nat:=(List.range (st.length/16)).filter λh=>st.getD (16*h) 0 != 0&&NM st h==k
def used (st:List Nat)(h:Nat):Nat:=sr st (16*h) (16*h+16) 1
structure Sp where
 st:List Nat
 wd:Nat->Int
 pk:Nat
def Sp.set (s:Sp)(a m v:Nat):Sp:={s with st:=gg s.st a (a+m) v,wd:=λw=>if a*32<=w/\w<(a+m)*32 then 0 else s.wd w}
def fB (s:Sp)(a m:Int):Int:=if Zb s.st.length a m then(if((s.st.drop a.toNat).take m.toNat).any (· != 0)then 5 else 0)else 1
def fT (s:Sp)(a m:Int):Sp:=if fB s a m=0 then s.set a.toNat m.toNat 1 else s
def eH (s:Sp)(x:Int):Int:=if x<0\/x%8≠0 then 7 else if s.st.getD (x.toNat/256) 0=0 then 7 else 0
def mU (s:Sp)(w:Nat)(v:Int):Sp:=
 {st:=s.st.set (w/32) 2,wd:=λu=>if u=w then v else s.wd u,pk:=if s.st.getD (w/32) 0=2 then s.pk else max s.pk ((s.st.set (w/32) 2).count 2)}
def ZU (s:Sp)(x v:Int):Sp:=if eH s x=0 then mU s (x.toNat/8) v else s
end Go.Ar
namespace Go.Ar
structure Li where
 os:List Int
 lim:Nat
 low:Nat
 deriving DecidableEq
def ig:Li:=⟨[],1,0⟩
structure fK (l:Li):Prop where
 low:l.low<=l.os.length
 many:l.os.length<=256
 lim:l.lim<=128
 mS:1<=l.lim
def gp (m:Nat)(l:Li):List Int×Li:=(l.os.take m,{l with os:=l.os.drop m,low:=min l.low (l.os.length-m)})
def mb (c:bZ)(l:Li):Li:=if l.lim<c.batch then{l with lim:=l.lim+1}else l
def QX (c:bZ)(l:Li):Option Int×Li:=match l.os.getLast? with
 | none=>(none,if l.lim<c.batch then{l with lim:=l.lim+1}else{l with lim:=min (l.lim+c.batch) 128})
 | some x=>(some x,{l with os:=l.os.dropLast,low:=min l.low (l.os.length-1)})
def nY (c:bZ)(l:Li):Nat:=min l.lim c.batch
def eD (xs:List Int)(l:Li):Li:=if l.os.length+xs.length>256 then l else{l with os:=l.os++xs}
def dJ (c:bZ)(x:Int)(l:Li):List Int×Li:=
 if l.os.length+1>256 then([],l)
 else if l.os.length+1<=l.lim then([],eD [x] l)
 else gp (min c.batch (l.os.length+1)) (mb c (eD [x] l))
def KC (c:bZ)(l:Li):List Int×Li:=
 ((gp ((l.low+1)/2) l).1,{os:=(gp ((l.low+1)/2) l).2.os,lim:=if l.lim>c.batch then max (l.lim-c.batch) c.batch else l.lim,low:=(gp ((l.low+1)/2) l).2.os.length})
def ZC (_:bZ)(l:Li):List Int×Li:=gp l.os.length l
abbrev Bt:=Nat×List Int
def QW (f:bZ->Li->List Int×Li)(tb:List bZ)(ls:List Li):List Bt:=(List.range tb.length).filterMap λk=>match tb[k]?,ls[k]? with
 | some c,some l=>if(f c l).1=[]then none else some (k,(f c l).1)
 | _,_=>none
def QS (f:bZ->Li->List Int×Li)(tb:List bZ)(ls:List Li):List Li:=List.zipWith (λc l=>(f c l).2) tb ls
def QN (tb:List bZ)(ls:List Li):Nat:=((tb.zip ls).map λx=>x.1.size*x.2.os.length).sum
theorem fK.nil:fK ig:=⟨zD _,by decide,by decide,by decide⟩
theorem xE {m:Nat}{l:Li}(h:fK l):fK (gp m l).2:=by
 have a:=h.low;have b:=h.many;refine⟨?_,?_,h.lim,h.mS⟩
 ·simp only[gp,jX];omega
 ·simp only[gp,jX];omega
theorem B8 {c:bZ}{l:Li}(hc:c.ok)(h:fK l):fK (QX c l).2:=by
 have a:=h.low;have b:=h.many;have e:=h.lim;have d:=h.mS;unfold bZ.ok at hc;unfold QX;split
 ·split
  ·exact⟨a,b,by simp only;omega,by simp only;omega⟩
  ·exact⟨a,b,by simp only;omega,by simp only;omega⟩
 ·exact⟨by simp only[BV];omega,by simp only[BV];omega,e,d⟩
theorem xM {xs:List Int}{l:Li}(h:fK l):fK (eD xs l):=by
 have a:=h.low;have b:=h.many;unfold eD;split
 ·exact h
 ·exact⟨by simp only[zP];omega,by simp only[zP];omega,h.lim,h.mS⟩
theorem DE {c:bZ}{l:Li}(hc:c.ok)(h:fK l):fK (mb c l):=by
 have a:=h.lim;unfold bZ.ok at hc;unfold mb;split
 ·exact⟨h.low,h.many,by simp only;omega,by simp only;omega⟩
 ·exact h
theorem NO {c:bZ}{x:Int}{l:Li}(hc:c.ok)(h:fK l):fK (dJ c x l).2:=by
 unfold dJ;split
 ·exact h
 ·split
  ·exact xM h
  ·exact xE (DE hc (xM h))
theorem CM {c:bZ}{l:Li}(hc:c.ok)(h:fK l):fK (KC c l).2:=by
 have a:=(xE (m:=(l.low+1)/2) h).many;have d:=h.lim;have b:=h.mS;unfold bZ.ok at hc;refine⟨zD _,a,?_,?_⟩<;>simp only[KC]<;>split<;>omega
theorem Ja {c:bZ}{l:Li}(h:fK l):fK (ZC c l).2:=xE h
theorem P0 (c:bZ)(hc:c.ok):KC c ig=([],ig):=by
 unfold bZ.ok at hc;simp[KC,ig,gp];omega
theorem Re (c:bZ):ZC c ig=([],ig):=by simp[ZC,ig,gp]
def gE.rem (t:gE):gE:={low:=min t.low (t.bs.length-1),bs:=t.bs.dropLast}
def gE.tick (t:gE):gE:={low:=(t.bs.drop ((t.low+1)/2)).length,bs:=t.bs.drop ((t.low+1)/2)}
def gE.out (t:gE):List (List Int):=t.bs.take ((t.low+1)/2)
end Go.Ar
namespace Go.Proofs
open Go.Vc
set_option maxRecDepth 100000
def Xw.h:Hn:=.q .o1 (.q (.cR (.seq [.op,.op,.op,.cU true 4 (RI.ops 4),.op])) .l)
def Xw.v (a:R2)(b:Hp)(c:aO):Prop:=bV (λd e=>c d e) λf=>If (!a.isNone) (bG a 0 b λh=>f h b) (f false b)
theorem Xw.o {a b c}(d:Xw.v a b c):Xw.c a b c:=Wa Tryz.func192 (x:=Xw.h) (R0 d)
def Z0.h:Hn:=.q .o1 (.q .o3 .l)
def Z0.v (a:Hp)(b:Option Addr->Hp->Prop):Prop:=aV #[.bool true,.pointer none,.pointer none,.pointer none,.pointer none,.pointer none,.pointer none,.pointer none,.pointer none,.pointer none,.pointer none,.pointer none,.pointer none,.pointer none,.pointer none,.pointer none,.pointer none] 330 a λc d=>b (some c) d
theorem Z0.o {a b}(c:Z0.v a b):Z0.c a b:=Wa Tryz.func193 (x:=Z0.h) (R0 c)
def YA.h:Hn:=.q .o1 (.q (.k (.q .o4 (.c .aM (.q (.cR (.seq [.op,.op,.op,.cU false 2 [.op,.op],.op,.cU false 2 [.op,.op],.op,.cU false 4 (RI.ops 4),.op])) .aK)))) (.q (.q .o2 (.k (.loop [(9,.I)] (.q (.q .o5 (.c .l .l)) (.q (.k .o4) .o3))))) .aM))
def YA.v (a:R2)(b c d:Int)(e:Hp)(f:aN):Prop:=Xw.c a e λg h=>If (!g) (f 5 h) (bV (λi j=>bV (λk l=>bV (λm n=>If m (f 1 n) (Yp [bN] (λo=>o b n) λp (q:Int) r=>bL (b+c) λs=>If (q<s) (YT.c a q d r λt=>bL (q+1) λu=>p u t) (f 0 r))) λv=>If k (v true l) (bL (1024-b) λw=>v (decide (c>w)) l)) λx=>If i (x true j) (x (decide (b>1024)) j)) λy=>If (b<0) (y true h) (y (decide (c<1)) h))
theorem YA.o {a b c d e f}(g:YA.v a b c d e f):YA.c a b c d e f:=Wa Tryz.func195 (x:=YA.h) (R0 g)
def XD.h:Hn:=.q .o1 (.q .o5 .l)
def XD.v (a:R2)(b c:Int)(d:Hp)(e:aN):Prop:=YA.c a b c 0 d λf g=>e f g
theorem XD.o {a b c d e}(f:XD.v a b c d e):XD.c a b c d e:=Wa Tryz.func219 (x:=XD.h) (R0 f)
def Y7.h:Hn:=.q .o1 (.q (.q (.cR (.seq [.op,.op,.op,.op,.cU false 2 [.op,.op],.op,.cU false 2 [.op,.op]])) .aK) (.q .o9 (.q (.q (.cR (.seq [.op,.op,.op,.cU false 8 (RI.ops 8)])) .aK) (.q (.o 13) .l))))
def Y7.v (a:R2)(b:Int)(c:Hp)(d:aN):Prop:=Xw.c a c λe f=>bV (λg h=>bV (λi j=>If i (d 0 j) (Nz 8<|bL (b.tdiv 8) λk=>Nz 8<|bL (k.tdiv 8) λl=>bU a λm=>nL (m.add 1) 16 l 1 λn=>fU n j λo=>bV (λp q=>If p (d 0 q) (Nz 8<|bL (b.tdiv 8) λr=>Nz 8 <| bU o λs=>nL s 8 (r.tmod 8) 1 λt=>fU t q λu=>Nz 8 <| bU u λv=>nL v 8 (b.tmod 8) 1 λw=>bM w q λx=>d x q)) λy=>If o.isNone (y true j) (Nz 8<|bL (b.tdiv 8) λz=>Nz 8 <| bU o λaa=>nL aa 8 (z.tmod 8) 1 λab=>fU ab j λac=>y ac.isNone j))) λad=>If g (ad true h) (ad (decide (b≥1024)) h)) λae=>If (!e) (ae true f) (ae (decide (b<0)) f)
theorem Y7.o {a b c d}(e:Y7.v a b c d):Y7.c a b c d:=Wa Tryz.func245 (x:=Y7.h) (R0 e)
def YT.h:Hn:=.q .o9 (.q .o8 (.q .o7 (.kr [] (.q .o5 (.c .o7 .l)) (.q .o5 (.c .o8 .l)))))
def YT.v (a:R2)(b c:Int)(d:Hp)(e:aP):Prop:=Nz 8<|bL (b.tdiv 8) λf=>Nz 8<|bL (f.tdiv 8) λg=>bU a λh=>nL (h.add 1) 16 g 1 λi=>Ww.c (some i) d λj k=>Nz 8<|bL (b.tdiv 8) λl=>Nz 8 <| bU j λm=>nL m 8 (l.tmod 8) 1 λn=>Wy.c (some n) k λo p=>Nz 8 <| bU o λq=>nL q 8 (b.tmod 8) 1 λr=>dX r (.I c) p λs=>Jn [] (λt=>bU j λu=>aY u 0 t λv=>aY u 1 t λw=>aY u 2 t λx=>aY u 3 t λy=>aY u 4 t λz=>aY u 5 t λaa=>aY u 6 t λab=>aY u 7 t λac=>If (v.isNone&&(w.isNone&&(x.isNone&&(y.isNone&&(z.isNone&&(aa.isNone&&(ab.isNone&&(ac.isNone&&true)))))))) (Nz 8<|bL (b.tdiv 8) λad=>Nz 8<|bL (ad.tdiv 8) λae=>bU a λaf=>nL (af.add 1) 16 ae 1 λag=>dX ag (.pointer none) t λah=>e ah) (e t)) λai=>bU o λaj=>aQ aj 0 s λak=>aQ aj 1 s λal=>aQ aj 2 s λam=>aQ aj 3 s λan=>aQ aj 4 s λao=>aQ aj 5 s λap=>aQ aj 6 s λaq=>aQ aj 7 s λar=>If ((ak==0)&&((al==0)&&((am==0)&&((an==0)&&((ao==0)&&((ap==0)&&((aq==0)&&((ar==0)&&true)))))))) (Nz 8<|bL (b.tdiv 8) λau=>Nz 8 <| bU j λav=>nL av 8 (au.tmod 8) 1 λaw=>dX aw (.pointer none) s λax=>ai ax) (ai s)
theorem YT.o {a b c d e}(f:YT.v a b c d e):YT.c a b c d e:=Wa Tryz.func246 (x:=YT.h) (R0 f)
def XU.h:Hn:=.q .o1 (.q (.q (.cR (.seq [.op,.op,.op,.cU true 6 [.op,.op,.op,.cU false 2 [.op,.op]]])) .aK) (.q .o6 .l))
def XU.v (a:R2)(b c d:Int)(e:Hp)(f:aN):Prop:=Xw.c a e λg h=>bV (λi j=>If i (f 1 j) (YA.c a b c d j λk l=>f k l)) λm=>If g (bV (λn o=>m n o) λp=>If (d<1) (p true h) (p (decide (d>1073741824)) h)) (m false h)
theorem XU.o {a b c d e f}(g:XU.v a b c d e f):XU.c a b c d e f:=Wa Tryz.func256 (x:=XU.h) (R0 g)
def Ww.h:Hn:=.q .o1 (.kr [] (.q .o4 (.c .o4 .l)) (.q .o4 .l))
def Ww.v (a:R2)(b:Hp)(c:Option Addr->Hp->Prop):Prop:=Jn [] (λd=>bU a λe=>fU e d λf=>c f d) λg=>bU a λh=>fU h b λi=>If i.isNone (aV #[.pointer none,.pointer none,.pointer none,.pointer none,.pointer none,.pointer none,.pointer none,.pointer none] 359 b λj k=>bU a λl=>dX l (.pointer (some j)) k λm=>g m) (g b)
theorem Ww.o {a b c}(d:Ww.v a b c):Ww.c a b c:=Wa Tryz.func279 (x:=Ww.h) (R0 d)
def Wy.h:Hn:=.q .o1 (.kr [] (.q .o4 (.c .o4 .l)) (.q .o4 .l))
def Wy.v (a:R2)(b:Hp)(c:Option Addr->Hp->Prop):Prop:=Jn [] (λd=>bU a λe=>fU e d λf=>c f d) λg=>bU a λh=>fU h b λi=>If i.isNone (aV #[.I 0,.I 0,.I 0,.I 0,.I 0,.I 0,.I 0,.I 0] 363 b λj k=>bU a λl=>dX l (.pointer (some j)) k λm=>g m) (g b)
theorem Wy.o {a b c}(d:Wy.v a b c):Wy.c a b c:=Wa Tryz.func280 (x:=Wy.h) (R0 d)
end Go.Proofs
namespace Go.Ar
open Go Go.Vc Go.Proofs
open Go.Bu (Zb)
variable {U:Hp}{F:Rg}{p:Nat}{M Lf:Nat->Option Nat}{ow:Nat->Nat}
def fo {α:Type}(f:Nat->α)(k:Nat)(v:α):Nat->α:=λi=>if i=k then v else f i
theorem Zq {α:Type}(f:Nat->α)(k:Nat)(v:α):fo f k v k=v:=by simp[fo]
theorem Z7 {α:Type}(f:Nat->α){k i:Nat}(v:α)(h:i≠k):fo f k v i=f i:=by simp[fo,h]
theorem QY {α:Type}(f:Nat->α)(n k:Nat)(v:α):((List.range n).map f).set k v=(List.range n).map (fo f k v):=by
 apply zo;intro i;by_cases hik:i=k
 ·subst hik;rcases ku i n with h|h
  ·rw[zL (by simpa using h)];simp[nj h,fo]
  ·rw[zV (by simpa using h),zV (by simpa using h)]
 ·rw[zk (Ne.symm hik)];simp only[zg];rcases ku i n with h|h
  ·simp[nj h,fo,hik]
  ·simp[zV (show(List.range n).length<=i by simpa using h)]
theorem Q4 {α:Type}(f:Nat->α){n k:Nat}(h:k<n):((List.range n).map f)[k]?=some (f k):=by simp[nj h]
def ptr (o:Option Nat):Value:=.pointer (o.map λq=>⟨q,0,none⟩)
structure jE (U:Hp) (F:Rg) (p:Nat) (M Lf:Nat->Option Nat) (ow:Nat->Nat):Prop where
 hd:bY U p (.bool true::(List.range 16).map λi=>ptr (M i))
 ja:∀i q,i<16->M i=some q->bY U q ((List.range 8).map λj=>ptr (Lf (8*i+j)))
 kQ:∀i,i<16->M i=none->∀j,j<8->Lf (8*i+j)=none
 leaf:∀k q,k<128->Lf k=some q->bY U q ((List.range 8).map λj=>.int .i64 ((ow (8*k+j):Nat):Int))
 iB:∀k,k<128->Lf k=none->∀j,j<8->ow (8*k+j)=0
 fp:F p
 fm:∀i q,i<16->M i=some q->F q/\q≠p
 fl:∀k q,k<128->Lf k=some q->F q/\q≠p
 mm:∀i j q,i<16->j<16->M i=some q->M j=some q->i=j
 ll:∀i j q,i<128->j<128->Lf i=some q->Lf j=some q->i=j
 ml:∀i k q,i<16->k<128->M i=some q->Lf k≠some q
def iZ (U:Hp)(F:Rg)(p:Nat)(ow:Nat->Nat):Prop:=∃M Lf,jE U F p M Lf ow
theorem jE.move {σ':Hp}{G:Rg}(h:jE U F p M Lf ow)(hb:∀b,b<U.size->F b->σ'[b]?=U[b]?)(hg:∀b,b<U.size->F b->G b):jE σ' G p M Lf ow:=by
 have j:∀{b:Nat} {cs:List Value},bY U b cs->F b->bY σ' b cs:=by
  rintro b cs ⟨e,m⟩ r;exact⟨e,(hb b (bY.lt ⟨e,m⟩) r).trans m⟩
 exact⟨j h.hd h.fp,λi q g a=>j (h.ja i q g a) (h.fm i q g a).1,h.kQ,λk q d a=>j (h.leaf k q d a) (h.fl k q d a).1,h.iB,hg p h.hd.lt h.fp,
  λi q g a=>⟨hg q (h.ja i q g a).lt (h.fm i q g a).1,(h.fm i q g a).2⟩,λk q d a=>⟨hg q (h.leaf k q d a).lt (h.fl k q d a).1,(h.fl k q d a).2⟩,h.mm,h.ll,h.ml⟩
theorem iZ.loc:dM λU F=>iZ U F p ow:=λU i F G ⟨M,Lf,h⟩ g e=>⟨M,Lf,h.move (λb d a=>(e b d a).2) λb d a=>(e b d a).1⟩
theorem iZ.congr {ow':Nat->Nat}(h:iZ U F p ow)(he:∀x,x<1024->ow x=ow' x):iZ U F p ow':=by
 obtain⟨M,Lf,h⟩:=h;refine⟨M,Lf,h.hd,h.ja,h.kQ,λk q a d=>?_,λk a d j b=>?_,h.fp,h.fm,h.fl,h.mm,h.ll,h.ml⟩
 ·have:=h.leaf k q a d;have e:((List.range 8).map λj=>Value.int .i64 ((ow (8*k+j):Nat):Int))=(List.range 8).map λj=>Value.int .i64 ((ow' (8*k+j):Nat):Int):=by
   apply ko;intro j b;rw[zc]at b;rw[he _ O]
  rw[←e];exact this
 ·rw[←he _ O];exact h.iB k a d j b
theorem Ac (h:iZ U F p ow){R:aO}(hR:R true U):Xw.c (aW p) U R:=by
 refine Xw.o ?_;unfold Xw.v;obtain⟨M,Lf,h⟩:=h;exact bV.intro (cD rfl (aG (h.hd.rB rfl hR)))
theorem qb {a:Addr}{n i sz:Nat}{K:Addr->Prop}(hi:i<n)(hK:K (a.add (i*sz))):nL a n (i:Int) sz K:=⟨O,O,by simpa using hK⟩
theorem jE.rM (h:jE U F p M Lf ow){i:Nat}(hi:i<16){K:Option Addr->Prop}(hK:K ((M i).map λq=>⟨q,0,none⟩)):fU ⟨p,1+i,none⟩ U K:=by
 refine h.hd.qP ?_ hK;rw[Nat.add_comm,A9,Q4 _ hi];rfl
theorem jE.rL (h:jE U F p M Lf ow){i j q:Nat}(hi:i<16)(hq:M i=some q)(hj:j<8){K:Option Addr->Prop}(hK:K ((Lf (8*i+j)).map λq=>⟨q,0,none⟩)):fU ⟨q,j,none⟩ U K:=
 (h.ja i q hi hq).qP (Q4 _ hj) hK
theorem jE.rN (h:jE U F p M Lf ow){k j q:Nat}(hk:k<128)(hq:Lf k=some q)(hj:j<8){K:Int->Prop}(hK:K ((ow (8*k+j):Nat):Int)):gA .i64 ⟨q,j,none⟩ U K:=
 (h.leaf k q hk hq).ud (Q4 _ hj) hK
def qk (ow:Nat->Nat)(x:Int):Nat:=if 0<=x/\x<1024 then ow x.toNat else 0
theorem OS (h:iZ U F p ow)(x:Int){R:aN}(hR:R ((qk ow x:Nat):Int) U):Y7.c (aW p) x U R:=by
 refine Y7.o ?_;unfold Y7.v;have j:=h;obtain⟨M,Lf,h⟩:=h;refine Ac j (bV.intro (cB rfl (bV.intro (cQ (λz=>cD rfl ?_) λz=>?_))))
 ·have:qk ow x=0:=by unfold qk;rw[zB O]
  rw[this]at hR;exact hR
 refine cQ (λi=>?_) λu=>?_
 ·have:qk ow x=0:=by unfold qk;rw[zB O]
  rw[this]at hR;exact hR
 obtain⟨y,rfl⟩:=za (show 0<=x by omega);have A:y<1024:=by omega
 have m:qk ow (y:Int)=ow y:=by unfold qk;rw[zC O];rfl
 rw[m]at hR;have d:((y:Int).tdiv 8)=((y/8:Nat):Int):=by rw[Xs O];simp
 have s:(((y/8:Nat):Int).tdiv 8)=((y/8/8:Nat):Int):=by rw[Xs O];simp
 have g:(((y/8:Nat):Int).tmod 8)=((y/8%8:Nat):Int):=by rw[Qm O];simp
 have w:((y:Int).tmod 8)=((y%8:Nat):Int):=by rw[Qm O];simp
 have b:8*(y/8/8)+y/8%8=y/8:=by omega
 have a:8*(y/8)+y%8=y:=by omega
 refine nz aB (cP d O (nz aB (cP s O (aG ?_))));refine qb O ?_;rw[add_lit,add_lit,zH,mX];refine h.rM O (bV.intro ?_);cases hM:M (y/8/8)with
 | none=>
  refine cD rfl (cD rfl ?_);have e:=h.kQ _ O hM (y/8%8) O;rw[b]at e;have:=h.iB _ O e (y%8) O;rw[a]at this;rw[this]at hR;exact hR
 | some q=>
  refine cB rfl (nz aB (cP d O (nz aB (aG ?_))));rw[g];refine qb O ?_;rw[add_lit,zH,mX];refine h.rL O hM O ?_;rw[b];cases hL:Lf (y/8)with
  | none=>
   refine cD rfl ?_;have:=h.iB _ O hL (y%8) O;rw[a]at this;rw[this]at hR;exact hR
  | some r=>
   refine cB rfl (nz aB (cP d O (nz aB (aG ?_))));rw[g];refine qb O ?_;rw[add_lit,zH,mX];refine h.rL O hM O ?_;rw[b,hL];refine nz aB (aG ?_);rw[w];refine qb O ?_;rw[add_lit,zH,mX];refine h.rN O hL O ?_;rw[a];exact hR
theorem Nv {R:Option Addr->Hp->Prop}(hR:∀σ' p,bK U σ'->U.size<=p->iZ σ' (λb=>U.size<=b) p (λ_=>0)->R (some ⟨p,0,none⟩) σ'):Z0.c U R:=by
 refine Z0.o ?_;unfold Z0.v;refine nw (cs:=[.bool true,.pointer none,.pointer none,.pointer none,.pointer none,.pointer none,.pointer none,.pointer none,.pointer none,.pointer none,.pointer none,.pointer none,.pointer none,.pointer none,.pointer none,.pointer none,.pointer none]) λv d e a=>?_;refine hR v _ e (zD _) ⟨λ_=>none,λ_=>none,a,?_,?_,?_,?_,zD _,?_,?_,?_,?_,?_⟩<;>intros<;>simp_all
theorem Oj (h:jE U F p M Lf ow){i:Nat}(hi:i<16){R:Option Addr->Hp->Prop}
 (hR:∀σ' M' q,Ext F U σ'->M' i=some q->jE σ' (Grow F U) p M' Lf ow->R (some ⟨q,0,none⟩) σ'):Ww.c (some ⟨p,1+i,none⟩) U R:=by
 refine Ww.o ?_;unfold Ww.v;refine Jn.intro (aG (h.rM hi ?_));cases hM:M i with
 | some q=>exact cB rfl (aG (h.rM hi (by rw[hM];exact hR U M q (Ext.refl _ _) hM (h.move (λ_ _ _=>rfl) λ_ _ B=>.inl B))))
 | none=>
  refine cD rfl (nw (cs:=[.pointer none,.pointer none,.pointer none,.pointer none,.pointer none,.pointer none,.pointer none,.pointer none]) λC D e1 x=>aG ?_);have E:=h.hd.lt;refine(e1.bT h.hd id).s0 aE λw o2 r=>?_;have s:(Value.bool true::(List.range 16).map λi=>ptr (M i)).set (1+i) (.pointer (some ⟨U.size,0,none⟩))=.bool true::(List.range 16).map λj=>ptr (fo M i (some U.size) j):=by
   rw[Nat.add_comm,q9,QY]
   congr 1
   apply ko;intro j _;simp only[fo];split<;>rfl
  rw[s]at r;have u:∀{b:Nat} {cs:List Value},bY U b cs->b≠p->bY w b cs:=λy z=>Ws o2 (e1.bT y id) z;have A:jE w (Grow F U) p (fo M i (some U.size)) Lf ow:=by
   refine⟨r,λj q g a=>?_,λj g a=>?_,λk q d a=>u (h.leaf k q d a) (h.fl k q d a).2,h.iB,.inl h.fp,λj q g a=>?_,λk q d a=>⟨.inl (h.fl k q d a).1,(h.fl k q d a).2⟩,λj k q g d m e=>?_,h.ll,λj k q g d a=>?_⟩
   ·by_cases hji:j=i
    ·subst hji;rw[Zq]at a;cases a;have z:=h.kQ j g hM;have:((List.range 8).map λk=>ptr (Lf (8*j+k)))=[.pointer none,.pointer none,.pointer none,.pointer none,.pointer none,.pointer none,.pointer none,.pointer none]:=by
      have:((List.range 8).map λk=>ptr (Lf (8*j+k)))=(List.range 8).map λ_=>Value.pointer none:=by
       apply ko;intro k d;rw[zc]at d;rw[z k d];rfl
      rw[this];rfl
     rw[this];exact Ws o2 x O
    ·rw[Z7 _ _ hji]at a;exact u (h.ja j q g a) (h.fm j q g a).2
   ·by_cases hji:j=i
    ·subst hji;rw[Zq]at a;cases a
    ·rw[Z7 _ _ hji]at a;exact h.kQ j g a
   ·by_cases hji:j=i
    ·subst hji;rw[Zq]at a;cases a;exact⟨.inr (zD _),O⟩
    ·rw[Z7 _ _ hji]at a;exact⟨.inl (h.fm j q g a).1,(h.fm j q g a).2⟩
   ·by_cases hji:j=i
    ·by_cases hki:k=i
     ·omega
     ·subst hji;rw[Zq]at m;cases m;rw[Z7 _ _ hki]at e;have:=(h.ja k _ d e).lt;omega
    ·rw[Z7 _ _ hji]at m;by_cases hki:k=i
     ·subst hki;rw[Zq]at e;cases e;have:=(h.ja j _ g m).lt;omega
     ·rw[Z7 _ _ hki]at e;exact h.mm j k q g d m e
   ·by_cases hji:j=i
    ·subst hji;rw[Zq]at a;cases a;intro hl;have:=(h.leaf k _ d hl).lt;omega
    ·rw[Z7 _ _ hji]at a;exact h.ml j k q g d a
  refine aG (A.rM hi ?_);rw[Zq];exact hR w _ U.size (e1.to.trans (o2.ext.sub λb y=>y▸h.fp)) (Zq _ _ _) A
theorem Ln (h:jE U F p M Lf ow){i j q:Nat}(hi:i<16)(hj:j<8)(hq:M i=some q){R:Option Addr->Hp->Prop}
 (hR:∀σ' L' r,Ext F U σ'->L' (8*i+j)=some r->jE σ' (Grow F U) p M L' ow->R (some ⟨r,0,none⟩) σ'):Wy.c (some ⟨q,j,none⟩) U R:=by
 refine Wy.o ?_;unfold Wy.v;have V:8*i+j<128:=by omega
 refine Jn.intro (aG (h.rL hi hq hj ?_));cases hL:Lf (8*i+j)with
 | some r=>exact cB rfl (aG (h.rL hi hq hj (by rw[hL];exact hR U Lf r (Ext.refl _ _) hL (h.move (λ_ _ _=>rfl) λ_ _ G=>.inl G))))
 | none=>
  refine cD rfl (nw (cs:=[.int .i64 0,.int .i64 0,.int .i64 0,.int .i64 0,.int .i64 0,.int .i64 0,.int .i64 0,.int .i64 0]) λW X e1 K=>aG ?_);have Q:=h.ja i q hi hq;have S:=Q.lt;have G:=h.fm i q hi hq;refine(e1.bT Q id).s0 aE λH o2 y=>?_;have z:∀{b:Nat} {cs:List Value},bY U b cs->b≠q->bY H b cs:=λN L=>Ws o2 (e1.bT N id) L;have P:jE H (Grow F U) p M (fo Lf (8*i+j) (some U.size)) ow:=by
   refine⟨z h.hd (Ne.symm G.2),λm x g d=>?_,λm g d D J=>?_,λk r a s=>?_,λk a s=>?_,.inl h.fp,λm x g d=>⟨.inl (h.fm m x g d).1,(h.fm m x g d).2⟩,λk r a s=>?_,h.mm,λk E r C A w u=>?_,λm k x g a d=>?_⟩
   ·by_cases hii:m=i
    ·subst hii;rw[hq]at d;cases d;rw[QY]at y;have:((List.range 8).map (fo (λj=>ptr (Lf (8*m+j))) j (.pointer (some ⟨U.size,0,none⟩))))=(List.range 8).map λk=>ptr (fo Lf (8*m+j) (some U.size) (8*m+k)):=by
      apply ko;intro k _;simp only[fo];by_cases hkj:k=j
      ·subst hkj;simp[ptr]
      ·have:¬8*m+k=8*m+j:=by omega
       simp[hkj,this]
     rw[this]at y;exact y
    ·have B:x≠q:=λe=>by subst e;exact hii (h.mm m i x g hi d hq)
     have:=z (h.ja m x g d) B;have e:((List.range 8).map λk=>ptr (fo Lf (8*i+j) (some U.size) (8*m+k)))=(List.range 8).map λk=>ptr (Lf (8*m+k)):=by
      apply ko;intro k a;rw[zc]at a;rw[Z7 _ _ O]
     rw[e];exact this
   ·have B:m≠i:=λe=>by subst e;rw[hq]at d;cases d
    rw[Z7 _ _ O];exact h.kQ m g d D J
   ·by_cases hkk:k=8*i+j
    ·subst hkk;rw[Zq]at s;cases s;have L:=h.iB _ V hL;have:((List.range 8).map λD=>Value.int .i64 ((ow (8*(8*i+j)+D):Nat):Int))=[.int .i64 0,.int .i64 0,.int .i64 0,.int .i64 0,.int .i64 0,.int .i64 0,.int .i64 0,.int .i64 0]:=by
      have:((List.range 8).map λD=>Value.int .i64 ((ow (8*(8*i+j)+D):Nat):Int))=(List.range 8).map λ_=>Value.int .i64 0:=by
       apply ko;intro k a;rw[zc]at a;rw[L k a];rfl
      rw[this];rfl
     rw[this];exact Ws o2 K O
    ·rw[Z7 _ _ hkk]at s;exact z (h.leaf k r a s) λe=>by subst e;exact h.ml i k r hi a hq s
   ·by_cases hkk:k=8*i+j
    ·subst hkk;rw[Zq]at s;cases s
    ·rw[Z7 _ _ hkk]at s;exact h.iB k a s
   ·by_cases hkk:k=8*i+j
    ·subst hkk;rw[Zq]at s;cases s;have:=h.hd.lt;exact⟨.inr (zD _),O⟩
    ·rw[Z7 _ _ hkk]at s;exact⟨.inl (h.fl k r a s).1,(h.fl k r a s).2⟩
   ·by_cases e1':k=8*i+j
    ·by_cases e2':E=8*i+j
     ·omega
     ·subst e1';rw[Zq]at w;cases w;rw[Z7 _ _ e2']at u;have:=(h.leaf E _ A u).lt;omega
    ·rw[Z7 _ _ e1']at w;by_cases e2':E=8*i+j
     ·subst e2';rw[Zq]at u;cases u;have:=(h.leaf k _ C w).lt;omega
     ·rw[Z7 _ _ e2']at u;exact h.ll k E r C A w u
   ·by_cases hkk:k=8*i+j
    ·subst hkk;rw[Zq];intro e;cases e;have:=(h.ja m _ g d).lt;omega
    ·rw[Z7 _ _ hkk];exact h.ml m k x g a d
  refine aG (P.rL hi hq hj ?_);rw[Zq];exact hR H _ U.size (e1.to.trans (o2.ext.sub λb N=>N▸G.1)) (Zq _ _ _) P
theorem RT (h:jE U F p M Lf ow){k r j no:Nat}(hk:k<128)(hr:Lf k=some r)(hj:j<8){σ':Hp}(ho:Qk U σ' r)(hb:bY σ' r (((List.range 8).map λj=>Value.int .i64 ((ow (8*k+j):Nat):Int)).set j (.int .i64 (no:Int)))) :
 jE σ' F p M Lf (fo ow (8*k+j) no):=by
 refine⟨Ws ho h.hd (Ne.symm (h.fl k r hk hr).2),λi q y x=>Ws ho (h.ja i q y x) λe=>by subst e;exact h.ml i k q y hk x hr,h.kQ,λd s g b=>?_,λd g b u w=>?_,h.fp,h.fm,h.fl,h.mm,h.ll,h.ml⟩
 ·by_cases hkk:d=k
  ·subst hkk;rw[hr]at b;cases b;rw[QY]at hb;have:((List.range 8).map (fo (λj=>Value.int .i64 ((ow (8*d+j):Nat):Int)) j (.int .i64 (no:Int))))=(List.range 8).map λu=>Value.int .i64 ((fo ow (8*d+j) no (8*d+u):Nat):Int):=by
    apply ko;intro a _;simp only[fo];by_cases haj:a=j
    ·subst haj;simp
    ·have:¬8*d+a=8*d+j:=by omega
     simp[haj,this]
   rw[this]at hb;exact hb
  ·have m:s≠r:=λe=>by subst e;exact hkk (h.ll d k s g hk b hr)
   have:=Ws ho (h.leaf d s g b) m;have e:((List.range 8).map λa=>Value.int .i64 ((fo ow (8*k+j) no (8*d+a):Nat):Int))=(List.range 8).map λa=>Value.int .i64 ((ow (8*d+a):Nat):Int):=by
    apply ko;intro a ha;rw[zc]at ha;rw[Z7 _ _ O]
   rw[e];exact this
 ·have m:d≠k:=λe=>by subst e;rw[hr]at b;cases b
  rw[Z7 _ _ O];exact h.iB d g b u w
theorem Lp (h:jE U F p M Lf ow){i j q:Nat}(hi:i<16)(hj:j<8)(hq:M i=some q)(hz:∀a,a<8->ow (8*(8*i+j)+a)=0){σ':Hp}(ho:Qk U σ' q)(hb:bY σ' q (((List.range 8).map λj=>ptr (Lf (8*i+j))).set j (.pointer none))) :
 jE σ' F p M (fo Lf (8*i+j) none) ow:=by
 have E:=h.fm i q hi hq;refine⟨Ws ho h.hd (Ne.symm E.2),λd y m b=>?_,λd m b G z=>?_,λk r x g=>?_,λk x g=>?_,h.fp,h.fm,λk r x g=>?_,h.mm,λk D r C A s u=>?_,λd k y m w b=>?_⟩
 ·by_cases hii:d=i
  ·subst hii;rw[hq]at b;cases b;rw[QY]at hb;have:((List.range 8).map (fo (λj=>ptr (Lf (8*d+j))) j (.pointer none)))=(List.range 8).map λk=>ptr (fo Lf (8*d+j) none (8*d+k)):=by
    apply ko;intro k _;simp only[fo];by_cases hkj:k=j
    ·subst hkj;simp[ptr]
    ·have:¬8*d+k=8*d+j:=by omega
     simp[hkj,this]
   rw[this]at hb;exact hb
  ·have B:y≠q:=λe=>by subst e;exact hii (h.mm d i y m hi b hq)
   have:=Ws ho (h.ja d y m b) B;have e:((List.range 8).map λk=>ptr (fo Lf (8*i+j) none (8*d+k)))=(List.range 8).map λk=>ptr (Lf (8*d+k)):=by
    apply ko;intro k w;rw[zc]at w;rw[Z7 _ _ O]
   rw[e];exact this
 ·simp only[fo];split
  ·rfl
  ·exact h.kQ d m b G z
 ·by_cases hkk:k=8*i+j
  ·subst hkk;rw[Zq]at g;cases g
  ·rw[Z7 _ _ hkk]at g;exact Ws ho (h.leaf k r x g) λe=>by subst e;exact h.ml i k r hi x hq g
 ·by_cases hkk:k=8*i+j
  ·subst hkk;exact hz
  ·rw[Z7 _ _ hkk]at g;exact h.iB k x g
 ·by_cases hkk:k=8*i+j
  ·subst hkk;rw[Zq]at g;cases g
  ·rw[Z7 _ _ hkk]at g;exact h.fl k r x g
 ·by_cases e1':k=8*i+j
  ·subst e1';rw[Zq]at s;cases s
  ·rw[Z7 _ _ e1']at s;by_cases e2':D=8*i+j
   ·subst e2';rw[Zq]at u;cases u
   ·rw[Z7 _ _ e2']at u;exact h.ll k D r C A s u
 ·by_cases hkk:k=8*i+j
  ·subst hkk;rw[Zq];intro e;cases e
  ·rw[Z7 _ _ hkk];exact h.ml d k y m w b
theorem Pv (h:jE U F p M Lf ow){i:Nat}(hi:i<16)(hz:∀j,j<8->Lf (8*i+j)=none){σ':Hp}(ho:Qk U σ' p)(hb:bY σ' p ((Value.bool true::(List.range 16).map λi=>ptr (M i)).set (1+i) (.pointer none))) :
 jE σ' F p (fo M i none) Lf ow:=by
 have m:(Value.bool true::(List.range 16).map λi=>ptr (M i)).set (1+i) (.pointer none)=.bool true::(List.range 16).map λj=>ptr (fo M i none j):=by
  rw[Nat.add_comm,q9,QY]
  congr 1
  apply ko;intro j _;simp only[fo];split<;>rfl
 rw[m]at hb;have g:∀{j q},fo M i none j=some q->M j=some q:=λ{j q} d=>by
  by_cases hji:j=i
  ·subst hji;rw[Zq]at d;cases d
  ·rwa [Z7 _ _ hji]at d
 refine⟨hb,λj q e d=>Ws ho (h.ja j q e (g d)) (h.fm j q e (g d)).2,λj e d=>?_,λk q r d=>Ws ho (h.leaf k q r d) (h.fl k q r d).2,h.iB,h.fp,λj q e d=>h.fm j q e (g d),h.fl,λa b q s hb u w=>h.mm a b q s hb (g u) (g w),h.ll,λa k q s r d=>h.ml a k q s r (g d)⟩;by_cases hji:j=i
 ·subst hji;exact hz
 ·rw[Z7 _ _ hji]at d;exact h.kQ j e d
theorem ND (h:iZ U F p ow){x no:Nat}(hx:x<1024){R:aP}(hR:∀σ',Ext F U σ'->iZ σ' (Grow F U) p (fo ow x no)->R σ'):YT.c (aW p) (x:Int) (no:Int) U R:=by
 refine YT.o ?_;unfold YT.v;obtain⟨M,Lf,h⟩:=h;have P:((x:Int).tdiv 8)=((x/8:Nat):Int):=by rw[Xs O];simp
 have t2:(((x/8:Nat):Int).tdiv 8)=((x/8/8:Nat):Int):=by rw[Xs O];simp
 have t3:(((x/8:Nat):Int).tmod 8)=((x/8%8:Nat):Int):=by rw[Qm O];simp
 have t4:((x:Int).tmod 8)=((x%8:Nat):Int):=by rw[Qm O];simp
 have hk:8*(x/8/8)+x/8%8=x/8:=by omega
 have hk2:8*(x/8)+x%8=x:=by omega
 refine nz aB (cP P O (nz aB (cP t2 O (aG ?_))));refine qb O ?_;rw[add_lit,add_lit,zH,mX];refine Oj h O λv1 M1 q e1 H h1=>?_;refine nz aB (cP P O (nz aB (aG ?_)));rw[t3];refine qb O ?_;rw[add_lit,zH,mX];refine Ln h1 O O H λv2 L2 r e2 J Q=>?_;rw[hk]at J;have W:Ext F U v2:=e1.jl e2;refine nz aB (aG ?_);rw[t4];refine qb O ?_;rw[add_lit,zH,mX];have s:x/8<128:=by omega
 refine(Q.leaf _ r s J).s0 aE λv3 o3 b3=>?_;have A:=RT Q s J O o3 b3;rw[hk2]at A;have a:∀b,Grow (Grow F U) v1 b->Grow F U b:=λb u=>by
  rcases u with h|h
  ·exact h
  ·exact .inr (ze e1.1 h)
 have L:Ext F U v3:=W.dV o3.ext λb u=>by subst u;exact a _ (Q.fl _ _ s J).1
 have y:∀v L4,Ext F U v->jE v (Grow (Grow F U) v1) p M1 L4 (fo ow x no) →
  (bU (some ⟨q,0,none⟩) λi=>fU (i.add 0) v λaa=>fU (i.add 1) v λD=>fU (i.add 2) v λN=>fU (i.add 3) v λC=>fU (i.add 4) v λE=>fU (i.add 5) v λG=>fU (i.add 6) v λB=>fU (i.add 7) v λK=>
   If (aa.isNone&&(D.isNone&&(N.isNone&&(C.isNone&&(E.isNone&&(G.isNone&&(B.isNone&&(K.isNone&&true)))))))) (Nz 8<|Ar .i64 ((x:Int).tdiv 8) λS=>Nz 8<|Ar .i64 (S.tdiv 8) λt48=>bU (some ⟨p,0,none⟩) λab=>nL (ab.add 1) 16 t48 1 λa51=>dX a51 (.pointer none) v λv4=>R v4) (R v)):=by
  intro v L4 ev h4;have m:=h4.ja _ q O H;have g:∀j,j<8->((List.range 8).map λj=>ptr (L4 (8*(x/8/8)+j)))[0+j]?=some (.pointer ((L4 (8*(x/8/8)+j)).map λq=>⟨q,0,none⟩)):=λj z=>by rw[zH,Q4 _ z];rfl
  refine aG (m.rP (g 0 O) (m.rP (g 1 O) (m.rP (g 2 O) (m.rP (g 3 O) (m.rP (g 4 O) (m.rP (g 5 O) (m.rP (g 6 O) (m.rP (g 7 O) ?_))))))));have fin:∀w,Ext F U w->iZ w (Grow (Grow F U) v1) p (fo ow x no)->R w:=λw ew hw=>hR w ew (iZ.loc.mono hw λb _ u=>a b u);refine cO (λd=>?_) λ_=>fin v ev ⟨_,_,h4⟩;have hz:∀j,j<8->L4 (8*(x/8/8)+j)=none:=by
   simp only[Option.isNone_map,tG,zF,Option.isNone_iff_eq_none]at d;intro j z;obtain⟨a0,Z,a2,V,X,a5,Y,a7⟩:=d
   match j,z with
   | 0,_=>exact a0
   | 1,_=>exact Z
   | 2,_=>exact a2
   | 3,_=>exact V
   | 4,_=>exact X
   | 5,_=>exact a5
   | 6,_=>exact Y
   | 7,_=>exact a7
  refine nz aB (cP P O (nz aB (cP t2 O (aG ?_))));refine qb O ?_;rw[add_lit,add_lit,zH,mX];refine h4.hd.s0 aE λv4 o4 b4=>fin v4 (ev.dV o4.ext λb u=>by subst u;exact a _ h4.fp) ⟨_,_,Pv h4 O hz o4 b4⟩
 refine Jn.intro (aG ?_);have e:=A.leaf _ r s J;have g:∀j,j<8->((List.range 8).map λj=>Value.int .i64 ((fo ow x no (8*(x/8)+j):Nat):Int))[0+j]?=some (.int .i64 ((fo ow x no (8*(x/8)+j):Nat):Int)):=λj z=>by rw[zH,Q4 _ z]
 refine e.rI (g 0 O) (e.rI (g 1 O) (e.rI (g 2 O) (e.rI (g 3 O) (e.rI (g 4 O) (e.rI (g 5 O) (e.rI (g 6 O) (e.rI (g 7 O) ?_)))))));refine cO (λd=>?_) λ_=>y v3 L2 L A;have hz:∀j,j<8->fo ow x no (8*(8*(x/8/8)+x/8%8)+j)=0:=by
  rw[hk];simp only[uT,tG,zF,zS]at d;intro j z;obtain⟨a0,Z,a2,V,X,a5,Y,a7⟩:=d
  match j,z with
  | 0,_=>exact a0
  | 1,_=>exact Z
  | 2,_=>exact a2
  | 3,_=>exact V
  | 4,_=>exact X
  | 5,_=>exact a5
  | 6,_=>exact Y
  | 7,_=>exact a7
 refine nz aB (cP P O (nz aB (aG ?_)));rw[t3];refine qb O ?_;rw[add_lit,zH,mX];have m:=A.ja _ q O H;refine m.s0 aE λv5 o5 b5=>?_;exact y v5 _ (L.dV o5.ext λb u=>by subst u;exact a _ (A.fm _ _ O H).1) (Lp A O O H hz o5 b5)
def jx (ow:Nat->Nat)(a m no:Nat):Nat->Nat:=if Zb 1024 a m then λp=>if a<=p/\p<a+m then no else ow p else ow
def uy (a m:Int):Int:=if Zb 1024 a m then 0 else 1
theorem B2 (h:iZ U F p ow)(a m:Int)(ha : -1000000000000<=a)(ha2:a<=1000000000000)(no:Nat){R:aN}(h1:Zb 1024 a m=false->R 1 U)
 (hR:∀x y:Nat,a=x->m=y->1<=y->x+y<=1024->∀σ',Ext F U σ'->iZ σ' (Grow F U) p (jx ow x y no)->R 0 σ'):YA.c (aW p) a m (no:Int) U R:=by
 refine YA.o ?_;unfold YA.v;have d:¬(0<=a/\1<=m/\m<=1024-a)->R 1 U:=λG=>h1 (by simp only[Zb,←uB];exact zM G);refine Ac h (cB rfl (bV.intro (cQ (λs=>bV.intro (cD rfl (bV.intro (cD rfl (cD rfl (d O)))))) λs=>?_)));refine bV.intro (cQ (λu=>bV.intro (cD rfl (cD rfl (d O)))) λu=>?_);refine bV.intro (cQ (λE=>cD rfl (d O)) λE=>ar O O (cQ (λw=>d O) λw=>?_));obtain⟨x,rfl⟩:=za (show 0<=a by omega);obtain⟨y,rfl⟩:=za (show 0<=m by omega);have g:Zb 1024 (x:Int) (y:Int)=true:=by simp only[Zb,zF,zU];omega
 refine ZS (a:=bN) (λ(t:Int) v=>∃i:Nat,t=((x+i:Nat):Int)/\i<=y/\Ext F U v/\iZ v (Grow F U) p (λz=>if x<=z/\z<x+i then no else ow z)) (λt _=>x+y-t.toNat) ⟨0,rfl,O,Ext.refl _ _,?_⟩ ?_
 ·have:(λz=>if x<=z/\z<x+0 then no else ow z)=ow:=by
   funext z;rw[zB O]
  rw[this];exact iZ.loc.mono h λb _ j=>.inl j
 rintro t v ⟨i,rfl,J,e,r⟩;refine cP (m:=x+y) O O (cQ (λD=>?_) λC=>?_)
 ·refine ND r O λK B A=>cP (m:=x+(i+1)) O O ⟨⟨i+1,rfl,O,e.jl B,?_⟩,O⟩;refine iZ.congr (iZ.loc.mono A λb _ j=>?_) λz H=>?_
  ·rcases j with h|h
   ·exact h
   ·exact .inr (ze e.1 h)
  ·simp only[fo];by_cases hzi:z=x+i
   ·subst hzi;rw[zC rfl,zC O]
   ·rw[zB hzi];by_cases hin:x<=z/\z<x+i
    ·rw[zC hin,zC O]
    ·rw[zB hin,zB O]
 ·have:i=y:=by omega
  subst this;refine hR x i rfl rfl O O v e ?_;unfold jx;rw[g];exact r
theorem Jl (h:iZ U F p ow)(a m:Nat)(ha:a<=1000000){no:Nat}(hno:1<=no)(hno2:no<=1000){R:aN}(hR:∀σ',Ext F U σ'->iZ σ' (Grow F U) p (jx ow a m no)->R (uy a m) σ'):XU.c (aW p) a m (no:Int) U R:=by
 refine XU.o ?_;unfold XU.v;refine Ac h (bV.intro (cD rfl (bV.intro (fS O (fS O ?_)))));refine B2 h a m O O no (λj=>?_) λx y A u w z σ' e r=>?_
 ·have:=hR U (Ext.refl _ _) (by unfold jx;rw[j];exact iZ.loc.mono h λb _ s=>.inl s);unfold uy at this;rw[j]at this;exact this
 ·have g:a=x:=by omega
  have d:m=y:=by omega
  subst g;subst d;have i:Zb 1024 (a:Int) (m:Int)=true:=by simp only[Zb,zF,zU];omega
  have:=hR σ' e r;unfold uy at this;rw[i]at this;exact this
theorem La (h:iZ U F p ow)(a m:Nat)(ha:a<=1000000){R:aN}(hR:∀σ',Ext F U σ'->iZ σ' (Grow F U) p (jx ow a m 0)->R (uy a m) σ'):XD.c (aW p) a m U R:=by
 refine XD.o ?_;unfold XD.v;refine B2 h a m O O 0 (λj=>?_) λx y A u w z σ' e r=>?_
 ·have:=hR U (Ext.refl _ _) (by unfold jx;rw[j];exact iZ.loc.mono h λb _ s=>.inl s);unfold uy at this;rw[j]at this;exact this
 ·have g:a=x:=by omega
  have d:m=y:=by omega
  subst g;subst d;have i:Zb 1024 (a:Int) (m:Int)=true:=by simp only[Zb,zF,zU];omega
  have:=hR σ' e r;unfold uy at this;rw[i]at this;exact this
end Go.Ar
namespace Go.Proofs
open Go.Shelf
def Tryz.iu:Go.Shelf.Ren:=⟨fun|7=>285|10=>307|n=>n,fun|23=>72|26=>3|3=>4|28=>98|0=>0|27=>97|33=>142|4=>4|n=>n,fun|n=>n⟩
theorem Tryz.mw:Go.Proofs.SlLaysZI.n7 Tryz.prog Tryz.iu:={
 mixed:=by kernel_rfl
 f7:=⟨Tryz.f285.name,by decide,Tryz.func285.trans (congrArg some (by kernel_rfl))⟩
 f10:=⟨Tryz.f307.name,by decide,Tryz.func307.trans (congrArg some (by kernel_rfl))⟩
 t0:=Tryz.underlying0
 a0:=Tryz.isAgg0
 z0:=Tryz.sizeOf0
 v0:=Tryz.zeroValue0
 t4:=Tryz.underlying4
 a4:=Tryz.isAgg4
 z4:=Tryz.sizeOf4
 v4:=Tryz.zeroValue4
 t23:=Tryz.underlying72
 a23:=Tryz.isAgg72
 z23:=Tryz.sizeOf72
 v23:=Tryz.zeroValue72
 t26:=Tryz.underlying3
 a26:=Tryz.isAgg3
 z26:=Tryz.sizeOf3
 v26:=Tryz.zeroValue3
 t27:=Tryz.underlying97
 a27:=Tryz.isAgg97
 z27:=Tryz.sizeOf97
 v27:=Tryz.zeroValue97
 t28:=Tryz.underlying98
 a28:=Tryz.isAgg98
 z28:=Tryz.sizeOf98
 v28:=Tryz.zeroValue98
 t33:=Tryz.underlying142
 a33:=Tryz.isAgg142
 z33:=Tryz.sizeOf142
 v33:=Tryz.zeroValue142}
def Tryz.mZ:Go.Shelf.Ren:=⟨fun|8=>84|11=>118|n=>n,fun|26=>3|28=>98|24=>34|0=>0|33=>142|4=>4|n=>n,fun|n=>n⟩
theorem Tryz.wJ:Go.Proofs.SlLaysZI.n8 Tryz.prog Tryz.mZ:={
 mixed:=by kernel_rfl
 f8:=⟨Tryz.f84.name,by decide,Tryz.func84.trans (congrArg some (by kernel_rfl))⟩
 f11:=⟨Tryz.f118.name,by decide,Tryz.func118.trans (congrArg some (by kernel_rfl))⟩
 t0:=Tryz.underlying0
 a0:=Tryz.isAgg0
 z0:=Tryz.sizeOf0
 v0:=Tryz.zeroValue0
 t24:=Tryz.underlying34
 a24:=Tryz.isAgg34
 z24:=Tryz.sizeOf34
 v24:=Tryz.zeroValue34
 t26:=Tryz.underlying3
 a26:=Tryz.isAgg3
 z26:=Tryz.sizeOf3
 v26:=Tryz.zeroValue3
 t28:=Tryz.underlying98
 a28:=Tryz.isAgg98
 z28:=Tryz.sizeOf98
 v28:=Tryz.zeroValue98
 i26:=by kernel_rfl}
def Tryz.m9:Go.Shelf.Ren:=⟨fun|5=>54|8=>87|7=>86|19=>128|20=>129|10=>119|11=>120|12=>121|13=>122|14=>123|15=>124|16=>125|17=>126|18=>127|30=>184|31=>185|32=>186|33=>187|34=>188|35=>189|40=>244|n=>n,fun|23=>34|25=>3|3=>3|32=>145|22=>34|0=>0|44=>196|46=>55|4=>4|36=>188|35=>187|41=>193|5=>5|9=>9|53=>271|57=>275|63=>324|64=>325|n=>n,fun|n=>n⟩
theorem Tryz.qQ:Go.Proofs.SlLaysM.n5 Tryz.prog Tryz.m9:={
 mixed:=by kernel_rfl
 f5:=⟨Tryz.f54.name,by decide,Tryz.func54.trans (congrArg some (by kernel_rfl))⟩
 f7:=⟨Tryz.f86.name,by decide,Tryz.func86.trans (congrArg some (by kernel_rfl))⟩
 f8:=Tryz.func87.trans (congrArg some (by kernel_rfl))
 f10:=⟨Tryz.f119.name,by decide,Tryz.func119.trans (congrArg some (by kernel_rfl))⟩
 f11:=⟨Tryz.f120.name,by decide,Tryz.func120.trans (congrArg some (by kernel_rfl))⟩
 f12:=⟨Tryz.f121.name,by decide,Tryz.func121.trans (congrArg some (by kernel_rfl))⟩
 f13:=⟨Tryz.f122.name,by decide,Tryz.func122.trans (congrArg some (by kernel_rfl))⟩
 f14:=⟨Tryz.f123.name,by decide,Tryz.func123.trans (congrArg some (by kernel_rfl))⟩
 f15:=⟨Tryz.f124.name,by decide,Tryz.func124.trans (congrArg some (by kernel_rfl))⟩
 f16:=⟨Tryz.f125.name,by decide,Tryz.func125.trans (congrArg some (by kernel_rfl))⟩
 f17:=⟨Tryz.f126.name,by decide,Tryz.func126.trans (congrArg some (by kernel_rfl))⟩
 f18:=⟨Tryz.f127.name,by decide,Tryz.func127.trans (congrArg some (by kernel_rfl))⟩
 f19:=Tryz.func128.trans (congrArg some (by kernel_rfl))
 f20:=Tryz.func129.trans (congrArg some (by kernel_rfl))
 f30:=⟨Tryz.f184.name,by decide,Tryz.func184.trans (congrArg some (by kernel_rfl))⟩
 f31:=Tryz.func185.trans (congrArg some (by kernel_rfl))
 f32:=Tryz.func186.trans (congrArg some (by kernel_rfl))
 f33:=⟨Tryz.f187.name,by decide,Tryz.func187.trans (congrArg some (by kernel_rfl))⟩
 f34:=⟨Tryz.f188.name,by decide,Tryz.func188.trans (congrArg some (by kernel_rfl))⟩
 f35:=⟨Tryz.f189.name,by decide,Tryz.func189.trans (congrArg some (by kernel_rfl))⟩
 f40:=⟨Tryz.f244.name,by decide,Tryz.func244.trans (congrArg some (by kernel_rfl))⟩
 t0:=Tryz.underlying0
 a0:=Tryz.isAgg0
 z0:=Tryz.sizeOf0
 v0:=Tryz.zeroValue0
 t3:=Tryz.underlying3
 a3:=Tryz.isAgg3
 z3:=Tryz.sizeOf3
 v3:=Tryz.zeroValue3
 t4:=Tryz.underlying4
 a4:=Tryz.isAgg4
 z4:=Tryz.sizeOf4
 v4:=Tryz.zeroValue4
 t5:=Tryz.underlying5
 a5:=Tryz.isAgg5
 z5:=Tryz.sizeOf5
 v5:=Tryz.zeroValue5
 t9:=Tryz.underlying9
 a9:=Tryz.isAgg9
 z9:=Tryz.sizeOf9
 v9:=Tryz.zeroValue9
 t22:=Tryz.underlying34
 a22:=Tryz.isAgg34
 z22:=Tryz.sizeOf34
 v22:=Tryz.zeroValue34
 t23:=Tryz.underlying34
 a23:=Tryz.isAgg34
 z23:=Tryz.sizeOf34
 v23:=Tryz.zeroValue34
 t25:=Tryz.underlying3
 a25:=Tryz.isAgg3
 z25:=Tryz.sizeOf3
 v25:=Tryz.zeroValue3
 t32:=Tryz.underlying145
 a32:=Tryz.isAgg145
 z32:=Tryz.sizeOf145
 v32:=Tryz.zeroValue145
 t35:=Tryz.underlying187
 a35:=Tryz.isAgg187
 z35:=Tryz.sizeOf187
 v35:=Tryz.zeroValue187
 t36:=Tryz.underlying188
 a36:=Tryz.isAgg188
 z36:=Tryz.sizeOf188
 v36:=Tryz.zeroValue188
 t41:=Tryz.underlying193
 a41:=Tryz.isAgg193
 z41:=Tryz.sizeOf193
 v41:=Tryz.zeroValue193
 t44:=Tryz.underlying196
 a44:=Tryz.isAgg196
 z44:=Tryz.sizeOf196
 v44:=Tryz.zeroValue196
 t46:=Tryz.underlying55
 a46:=Tryz.isAgg55
 z46:=Tryz.sizeOf55
 v46:=Tryz.zeroValue55
 t53:=Tryz.underlying271
 a53:=Tryz.isAgg271
 z53:=Tryz.sizeOf271
 v53:=Tryz.zeroValue271
 t57:=Tryz.underlying275
 a57:=Tryz.isAgg275
 z57:=Tryz.sizeOf275
 v57:=Tryz.zeroValue275
 t63:=Tryz.underlying324
 a63:=Tryz.isAgg324
 z63:=Tryz.sizeOf324
 v63:=Tryz.zeroValue324
 t64:=Tryz.underlying325
 a64:=Tryz.isAgg325
 z64:=Tryz.sizeOf325
 v64:=Tryz.zeroValue325}
end Go.Proofs
namespace Go.Bu
open Go Go.Vc Go.Proofs Go.RowKit Go.Maps Go.Sort Go.Shelf
variable {U:Hp}
def mH (B:Nat)(h:Hp)(s:Sl)(xs:List Value):Prop:=
 s.len=xs.length/\(xs=[]/\s.a=none\/∃b cs,B<=b/\s.a=some ⟨b,0,none⟩/\bY h b cs/\∀j,j<xs.length->cs[j]?=xs[j]?)
theorem mH.bR {B:Nat}{h h':Hp}{s:Sl}{xs:List Value}{F:Nat->Prop}(hs:mH B h s xs)(e:Ext F h h')(hF:∀b,F b->b<B):mH B h' s xs:=by
 refine⟨hs.1,hs.2.imp id ?_⟩;rintro⟨b,cs,hb,ha,hk,hc⟩;exact⟨b,cs,hb,ha,e.bT hk (λa=>by have:=hF b a;omega),hc⟩
theorem mH.mono {B B':Nat}{h:Hp}{s:Sl}{xs:List Value}(hs:mH B h s xs)(hB:B'<=B):mH B' h s xs:=by
 refine⟨hs.1,hs.2.imp id ?_⟩;rintro⟨b,cs,hb,ha,hk,hc⟩;exact⟨b,cs,O,ha,hk,hc⟩
theorem mH.nr {B:Nat}{h:Hp}{s:Sl}{xs:List Int}(hs:mH B h s (xs.map (Value.int .i64))){i:Nat}{x:Int}(hx:xs[i]?=some x){K:Int->Prop}(hK:K x) :
 Ix s.a s.len (i:Int) 1 λa=>gA .i64 a h K:=by
 have d:i<xs.length:=(cW.1 hx).1;rcases hs.2 with⟨h0,_⟩|⟨b,cs,_,ha,hb,hc⟩
 ·simp at h0;subst h0;simp at d
 ·rw[ha];refine ix O (by rw[hs.1];simp;omega) ?_;rw[add_lit];refine ns ?_ hK;rw[hb.cell];have:=hc i (by simpa using d);simpa[hx]using this
theorem Uk {w w':World}(h:Below w.heap.size w w'):bK w.heap w'.heap:=⟨h.size,λb a _=>h.block b a⟩
theorem Gb {n:Nat}{w w':World}(h:Below n w w'):Xb w w':=⟨h.os,h.tape,h.output,h.size⟩
def tK:Nat:=Tryz.iu.f 10
def FT:Nat:=Tryz.iu.t 23
theorem RQ (m:Option Nat){R:Fv->Hp->Prop}(hR:R ⟨tK,#[],#[.pointer (some ⟨U.size,0,none⟩)]⟩ (U.push (.cells #[.map m] FT (0,0)))) :
 Z6.c m U R:=by
 rintro w rfl;refine(callsIn_wide.1 (AnyZI.keys_in Tryz.mw Fence.wide 5 trivial rfl m w)).mono ?_;rintro e a ⟨rfl,rfl⟩;exact⟨⟨rfl,rfl,rfl,sO (by show _<(w.heap.push _).size;simp)⟩,[.func (.func tK) #[] #[.pointer (some ⟨w.heap.size,0,none⟩)]],rfl,⟨tK,#[],#[.pointer (some ⟨w.heap.size,0,none⟩)]⟩,rfl,hR⟩
def mr (x:Int):Prop:=-9223372036854775808<=x/\x<=9223372036854775807
theorem VM {P:Program}{kt:Nat}(hk:P.underlying kt=some (.int .i64)){w:World}{m:Nat}{c:CK}{B:List (Int×c.T)}(h:dL w.heap m .i64 c B)(hb:∀x∈B,mr x.1)(hs:B.length<=1000000) :
 ∃D:DataW Unit,w.ownsMap P kt (λ_=>some (.nil,[])) m B.length D/\(intKeys D).Perm (B.map (·.1))/\Maps.size D=B.length:=by
 obtain⟨d,A,H,u,M,J,C⟩:=h;have r:d.size=B.length:=by simpa using congrArg List.length u
 have i:∀e∈d.toList,∃x:Int,e.key=.int .i64 x/\mr x:=by
  intro e hme;have:(e.key,e.val)∈d.toList.map (λe=>(e.key,e.val)):=wV hme;rw[u]at this;obtain⟨y,L,e2⟩:=zE.1 this;simp only[Prod.mk.injEq]at e2;exact⟨y.1,e2.1.symm,hb y L⟩
 have wf:∀x:Int,mr x->(Lit.int .i64 x).wf=true:=by
  rintro x ⟨s,Q⟩;simp[Lit.wf,IntKind.min,IntKind.max,IntKind.bits,IntKind.signed];omega
 have j:∀e∈d.toList,∃x:Int,e.key=.int .i64 x/\Go.WideElems.rd P kt (λ_=>some ((.nil:DataW Unit),[])) e=some (.int .i64 x,.nil):=by
  intro e hme;obtain⟨x,g,K⟩:=i e hme;refine⟨x,g,?_⟩;simp[Go.WideElems.rd,keyOf,hk,g,mapKey,wf x K]
 refine⟨.map ((d.toList.map (Go.WideElems.rg P kt (λ_=>some (.nil,[])))).foldr DataW.insert []),⟨d,A,H,⟨?_,⟨λx g=>C x g,?_,?_⟩,λx g=>?_⟩,O,rfl⟩,?_,?_⟩
 ·have:1000000<=maxLen:=by unfold maxLen;omega
  omega
 ·exact J.imp (λh=>uQ h)
 ·have F:d.toList.map (·.key)=(B.map (·.1)).map (Value.int .i64):=by
   have:=congrArg (List.map Prod.fst) u;simpa[k8,Function.comp_def]using this
  rw[F];exact List.Pairwise.map _ (λa b (E:a≠b) z=>E (by simpa using z)) M
 ·obtain⟨N,_,s⟩:=j x g;exact⟨_,s⟩
 ·simp only[intKeys];refine((Go.WideShapes.sorted_perm _).map _).trans ?_;rw[k8];have:d.toList.map ((λp=>Go.intOf p.1)∘Go.WideElems.rg P kt (λ_=>some ((.nil:DataW Unit),[])))=B.map (·.1):=by
   have F:d.toList.map (·.key)=(B.map (·.1)).map (Value.int .i64):=by
    have:=congrArg (List.map Prod.fst) u;simpa[k8,Function.comp_def]using this
   have G:d.toList.map ((λp=>Go.intOf p.1)∘Go.WideElems.rg P kt (λ_=>some ((.nil:DataW Unit),[])))=(d.toList.map (·.key)).map (λv=>match v with | .int _ x=>x|_=>0):=by
    rw[k8];apply ko;intro e hme;obtain⟨x,g,s⟩:=j e hme;simp[Function.comp,Go.WideElems.rg,s,g,Go.intOf]
   rw[G,F,k8]
   conv=>rhs;rw[←uY (B.map (·.1))]
   rfl
  rw[this]
 ·simp only[Maps.size];rw[(Go.WideShapes.sorted_perm _).length_eq];simp[r]
theorem Gx {w:World}{B e n:Nat}{v:Value}{xs:List Value}(h:w.ownsRow B e 1 v n xs):∃s:Sl,v=.slice s.a s.len s.cap/\mH B w.heap s xs:=by
 obtain⟨b,h⟩:=h;rcases h with⟨rfl,rfl⟩|⟨g,cap,cur,rfl,hb,hg,_,_,hcs,ht⟩
 ·exact⟨⟨none,0,0⟩,rfl,by simp at b;simp[b],.inl ⟨by simpa using b,rfl⟩⟩
 ·refine⟨⟨some ⟨g,0,none⟩,n,cap⟩,rfl,by simp at b;simp[b],.inr ⟨g,cur.toList,hb,rfl,⟨e,by simpa using hg⟩,λj d=>?_⟩⟩;rw[←ht,zj,zC O]
theorem Jc {w:World}{c m:Nat}{B:List (Int×Bool)}(hc:cell w.heap ⟨c,0,none⟩=some (.map (some m)))(hm:dL w.heap m .i64 .b B)(hb:∀x∈B,mr x.1)(hs:B.length<=1000000)(n:Nat)(hn:1<=n) :
 SeqGives Fence.wide n Tryz.prog tK #[.pointer (some ⟨c,0,none⟩)] encZ (λss=>ss.Perm (B.map (·.1))) B.length w:=by
 obtain⟨D,r,j,d⟩:=VM (P:=Tryz.prog) Tryz.mw.t26 hm hb hs;have a:c<w.heap.size:=by
  unfold cell at hc;split at hc
  ·rename_i h;exact(j3.1 h).1
  ·cases hc
 have:=AnyZI.keys_gives (ρ:=Tryz.iu) {Tryz.mw with} Fence.wide n trivial rfl hn c m B.length D w a hc r;intro l J W hW hJ hY h0;rw[d]at this;refine(this l J W hW hJ hY h0).mono ?_;rintro e W' ⟨p,ss,g,i⟩;exact⟨p,ss,g.trans j,i⟩
theorem PN {c m:Nat}{B:List (Int×Bool)}(hc:cell U ⟨c,0,none⟩=some (.map (some m)))(hm:dL U m .i64 .b B)(hb:∀x∈B,mr x.1)(hs:B.length<=1000000){R:Sl->Hp->Prop}
 (hR:∀(s:Sl) (σ':Hp) (ss:List Int),bK U σ'->ss.Perm (B.map (·.1))->mH U.size σ' s (ss.map (Value.int .i64))->R s σ') :
 KZ.c ⟨tK,#[],#[.pointer (some ⟨c,0,none⟩)]⟩ U R:=by
 rintro w rfl;have i:=Jc hc hm hb hs 3 O;have p:B.length<=maxLen:=by unfold maxLen;omega
 have y:=AnyZI.collect_in Tryz.wJ Fence.wide 5 trivial trivial rfl O tK #[.pointer (some ⟨c,0,none⟩)] trivial (Tryz.mw.f10.enters rfl) _ _ p O _ i;refine(callsIn_wide.1 y).mono ?_;rintro e z ⟨v,ss,rfl,u,d,r,g⟩;obtain⟨s,rfl,j⟩:=Gx d;exact⟨Gb g,[.slice s.a s.len s.cap],rfl,s,rfl,hR s _ ss (Uk g) u j⟩
end Go.Bu
namespace Go.Bu
open Go Go.Vc Go.Proofs
variable {U:Hp}{p n sb:Nat}{S:Nat->Bool}{ms:List Nat}
theorem N2 {B:Nat}{s:Sl}{xs:List Int}(hs:mH B U s (xs.map (Value.int .i64)))(hl:xs.length<1000000000){m:Int}(hm:m∈xs)(hle:∀y∈xs,m<=y){R:aN}(hR:R m U):XI.c s U R:=by
 refine XI.o ?_;unfold XI.v;have z:s.len=xs.length:=by simpa using hs.1
 have g:0<xs.length:=List.length_pos_of_mem hm;refine Jn.intro (fS O ?_);have A:xs[0]?=some xs[0]:=by simp[g]
 refine hs.nr (i:=0) A ?_;refine UO (a:=bN) (bb:=bN) (λ(c t:Int) u=>∃k:Nat,t=(k:Int)/\k<=xs.length/\u=U/\c∈xs/\∀(j:Nat) (y:Int),j<k->xs[j]?=some y->c<=y) (λ_ t _=>xs.length-t.toNat)
  ⟨1,rfl,O,rfl,kg _,λj y p d=>?_⟩ ?_
 ·have:j=0:=by omega
  subst this;rw[A]at d;cases d;omega
 rintro c t u ⟨k,rfl,G,rfl,w,b⟩;refine cQ (λF=>?_) (λE=>?_)
 ·have r:k<xs.length:=by omega
  have x:xs[k]?=some xs[k]:=by simp[r]
  refine hs.nr x (cP (m:=k+1) O O ⟨⟨k+1,rfl,O,rfl,?_,λj y p d=>?_⟩,O⟩)
  ·split
   ·exact kg _
   ·exact w
  ·by_cases e:j=k
   ·subst e;rw[x]at d;cases d;split<;>omega
   ·have:=b j y O d;split<;>omega
 ·have:k=xs.length:=by omega
  subst this;obtain⟨j,p,e⟩:=tN hm;have C:=b j m p (by simp[p,e]);have D:=hle c w;have:c=m:=Int.le_antisymm C D;rw[this];exact hR
def Q0 (n:Nat)(S:Nat->Bool)(k:Nat):List Nat:=((List.range n).filter (can S k)).map (· * 2^k)
theorem O8 (hb:Bounded S n){k q:Nat}(hc:can S k q=true):q<n:=by
 have:=ZD hb (Zu.1 hc).1;have a:=kF k;have b:q<=q*2^k:=Nat.le_mul_of_pos_right _ a;omega
theorem Qy (hb:Bounded S n){k x:Nat}:x∈Q0 n S k↔∃q,x=q*2^k/\can S k q=true:=by
 simp only[Q0,zE,zI,zc];constructor
 ·rintro⟨q,⟨_,hc⟩,rfl⟩;exact⟨q,rfl,hc⟩
 ·rintro⟨q,rfl,hc⟩;exact⟨q,⟨O8 hb hc,hc⟩,rfl⟩
theorem U6 (n:Nat)(S:Nat->Bool)(k:Nat):(Q0 n S k).Pairwise (· < ·):=by
 unfold Q0;refine List.Pairwise.map _ (λa b h=>Nat.mul_lt_mul_of_pos_right h (kF k)) ?_;exact List.Pairwise.sublist sX List.pairwise_lt_range
theorem Ha (n:Nat)(S:Nat->Bool)(k:Nat):(Q0 n S k).length=many n S k:=by
 simp[Q0,many,wN]
theorem Rn {k:Nat}{B:List (Int×Bool)}(hK:Keys S k B)(hn:(B.map (·.1)).Nodup)(hb:Bounded S n):(B.map (·.1)).Perm ((Q0 n S k).map λ(x:Nat)=>(x:Int)):=by
 rw[Bm hn]
 ·intro x;simp only[zE];constructor
  ·rintro⟨⟨x1,x2⟩,hm,rfl⟩;obtain⟨_,q,i,d⟩:=hK.1 x1 x2 hm;exact⟨_,(Qy hb).2 ⟨q,rfl,d⟩,i.symm⟩
  ·rintro⟨y,hy,rfl⟩;obtain⟨q,rfl,d⟩:=(Qy hb).1 hy;exact⟨_,hK.2 q d,rfl⟩
 ·refine List.Pairwise.map _ (λa b (g:a<b)=>?_) (U6 n S k);intro e;have:a=b:=by exact_mod_cast e
  omega
theorem Ps {k:Nat}{B:List (Int×Bool)}(hK:Keys S k B)(hb:Bounded S n)(hn:n<=1024):∀x∈B,mr x.1:=by
 rintro⟨x,v⟩ hx;obtain⟨_,q,rfl,a⟩:=hK.1 x v hx;have:=ZD hb (Zu.1 a).1;have:=kF k;constructor<;>simp only<;>omega
theorem O4 (h:BH U p n S sb ms){k:Nat}(hk:ms.length<=k):Q0 n S k=[]:=by
 rw[List.eq_nil_iff_forall_not_mem];intro x hx;obtain⟨q,_,a⟩:=(Qy h.jo).1 hx;have:=h.fits (ZD h.jo (Zu.1 a).1);omega
theorem Sb {h:Hp}{v:Value}{e:Nat}:cell (h.push (.cells #[v] e (0,0))) ⟨h.size,0,none⟩=some v:=by simp[cell]
theorem U3 (h:Hp)(o:Obj):bK h (h.push o):=Ext.push _ _ _
def eU (a:Int):Bool:=(List.range 11).any λk=>a==((2^k:Nat):Int)
theorem N3:(List.range 1025).all (λa=>a==0||((a &&& (a-1))==0)==((List.range 11).any λk=>a==2^k))=true:=by decide +kernel
theorem Uz {a:Nat}(h1:1<=a)(h2:a<=1024):((a &&& (a-1))==0)=((List.range 11).any λk=>a==2^k):=by
 have:=jW.1 N3 a (zc.2 O);simp only[nm,zS]at this;rcases this with h|h
 ·omega
 ·exact h
theorem KP (a:Nat):eU (a:Int)=((List.range 11).any λk=>a==2^k):=by
 unfold eU
 congr 1
 funext k
 rw[lO];simp only[zS];exact⟨λh=>by exact_mod_cast h,λh=>by exact_mod_cast h⟩
def fJ (aF align:Int):Bool:=decide (1<=aF)&&(decide (aF<=1024)&&(decide (1<=align)&&(decide (align<=1024)&&eU align)))
def Zx (n:Nat)(S:Nat->Bool)(aF align:Nat):Nat->Option Nat
 | 0=>none
 | k+1=>match Zx n S aF align k with
  | some x=>some x
  | none=>if aF<=2^k/\align<=2^k then(Q0 n S k).head? else none
def Y8 (n:Nat)(S:Nat->Bool)(aF align:Nat):Option Nat:=Zx n S aF align 11
def iP (n:Nat)(S:Nat->Bool)(aF align:Int):Int:=if fJ aF align then(match Y8 n S aF.toNat align.toNat with|some _=>0|none=>6)else 1
def iM (n:Nat)(S:Nat->Bool)(aF align:Int):Nat:=if fJ aF align then(match Y8 n S aF.toNat align.toNat with|some x=>x|none=>0)else 0
def iT (n:Nat)(S:Nat->Bool)(aF align:Int):Nat->Bool:=if fJ aF align then(match Y8 n S aF.toNat align.toNat with|some x=>take S x (x+aF.toNat)|none=>S)else S
theorem JQ {n:Nat}{S:Nat->Bool}{m a k x:Nat}(h:Zx n S m a k=some x):∀j,k<=j->Zx n S m a j=some x:=by
 intro j hj
 induction j with
 | zero=>
  have:k=0:=by omega
  subst this;exact h
 | succ j ih=>
  by_cases e:k=j+1
  ·subst e;exact h
  ·simp only[Zx,ih O]
theorem LZ (h:BH U p n S sb ms){m a:Nat}(hn:Zx n S m a ms.length=none):∀j,ms.length<=j->Zx n S m a j=none:=by
 intro j hj
 induction j with
 | zero=>
  have:ms.length=0:=by omega
  rw[this]at hn;exact hn
 | succ j ih=>
  by_cases e:ms.length=j+1
  ·rw[←e];exact hn
  ·simp only[Zx,ih O,O4 h (show ms.length<=j by omega)];simp
theorem MI {k:Nat}(hpos:0<many n S k):∃x rest,Q0 n S k=x::rest:=by
 rw[←Ha]at hpos
 match h:Q0 n S k with
 | []=>rw[h]at hpos;simp at hpos
 | x::r=>exact⟨x,r,rfl⟩
theorem kO (h:BH U p n S sb ms)(aF align:Int){R:Int->Int->Hp->Prop}
 (hR:∀σ',Ext (· ∈ ms) U σ'->BH σ' p n (iT n S aF align) sb ms->R ((iM n S aF align:Nat):Int) (iP n S aF align) σ'):XC.c (aW p) aF align U R:=by
 refine XC.o ?_;unfold XC.v;have hn2:=h.n2;have hl:=h.len;have H:fJ aF align=false->R 0 1 U:=λe=>by
  have:=hR U (Ext.refl _ _);simp only[iT,iM,iP,e,zd,zy]at this;exact this h
 have d:¬(1<=aF/\aF<=1024/\1<=align/\align<=1024)->R 0 1 U:=λhn=>H (by
  simp only[fJ,←Bool.and_assoc,←uB];rw[zM];rfl;omega)
 refine AV h (cB rfl (bV.intro ?_));refine cQ (λh1=>bV.intro (cD rfl (bV.intro (cD rfl (bV.intro (cD rfl (cD rfl (d O)))))))) λh1=>?_;refine bV.intro (cQ (λh2=>bV.intro (cD rfl (bV.intro (cD rfl (cD rfl (d O)))))) λh2=>?_);refine bV.intro (cQ (λX=>bV.intro (cD rfl (cD rfl (d O)))) λX=>?_);refine bV.intro (cQ (λh4=>cD rfl (d O)) λh4=>?_);obtain⟨a,rfl⟩:=za (show 0<=align by omega);obtain⟨m,rfl⟩:=za (show 0<=aF by omega);refine cP (m:=a-1) O O ?_;rw[iN O O];have K:((((a &&& (a-1):Nat):Int)) != 0) = !eU (a:Int):=by
  rw[KP,←Uz O O];simp only[bne,Bool.not_inj_iff];rw[lO];simp only[zS];omega
 rw[K];cases P:eU (a:Int)
 ·refine cD rfl (H ?_);simp[fJ,P]
 refine cB rfl ?_;have M:fJ (m:Int) (a:Int)=true:=by
  simp only[fJ,P,tG,zF,zU];omega
 refine aG (h.rB λcap=>?_);refine ZS (a:=bN) (λt F=>∃k:Nat,t=(k:Int)/\k<=ms.length/\F=U/\Zx n S m a k=none) (λt _=>ms.length-t.toNat) ⟨0,rfl,O,rfl,rfl⟩ ?_;rintro t F ⟨k,rfl,hk,rfl,r⟩;refine cQ (λW=>?_) (λY=>?_)
 ·simp only at W;obtain⟨mm,hm⟩:=h.get (k:=k) O;refine h.rM hm (ma O (bV.intro ?_));have next:Zx n S m a (k+1)=none->Ar .i64 ((k:Int)+1) λJ=>(∃k:Nat,J=(k:Int)/\k<=ms.length/\F=F/\Zx n S m a k=none)/\ms.length-J.toNat<ms.length-(k:Int).toNat:=
   λG=>cP (m:=k+1) O O ⟨⟨k+1,rfl,O,rfl,G⟩,O⟩
  refine cQ (λL=>?_) (λaa=>cB rfl (next ?_))
  ·have j:m<=2^k/\a<=2^k:=by
    have:((if(a:Int)>(m:Int)then(a:Int)else(m:Int))<=((2^k:Nat):Int)):=L
    split at this<;>omega
   refine h.kS hm ?_;refine cQ (λhpos=>?_) (λhz=>next ?_)
   ·have w:0<many n S k:=by omega
    obtain⟨x,rest,Q⟩:=MI w;obtain⟨q,rfl,hc⟩:=(Qy h.jo (k:=k) (x:=x)).1 (by rw[Q];simp);have A:Y8 n S m a=some (q*2^k):=by
     refine JQ (k:=k+1) ?_ 11 O;simp only[Zx,r,zC j,Q,List.head?_cons]
    have hfb:=ZD h.jo (Zu.1 hc).1;obtain⟨B,Z,E⟩:=h.maps k mm hm;have g:=DD E Z.nodup h.jo;have hle:B.length<=1024:=by
     rw[g];have:=List.countP_le_length (p:=can S k) (l:=List.range n);simp only[many,xL]at *;omega
    refine RQ _ ?_;have e1:=U3 F (.cells #[.map (some mm)] FT (0,0));refine PN Sb (e1.fR Z id) (Ps E h.jo h.n2) O λs σ' ss e2 P ab=>?_;have C:=P.trans (Rn E Z.nodup h.jo);have u:=C.length_eq;simp only[zl]at u;rw[Ha,←g]at u;refine N2 ab O (m:=((q*2^k:Nat):Int)) (C.mem_iff.2 (by rw[Q];simp)) (λy hy=>?_) ?_
    ·have D:=C.mem_iff.1 hy;have b:=U6 n S k;rw[Q]at D b;simp only[zT,zW,zE]at D;rcases D with rfl|⟨z,hz,rfl⟩
     ·omega
     ·have:=(rD.1 b).1 z hz;omega
    ·have V:=(h.bO e1).bO e2;refine My V O (λy hy1 hy2=>VJ hc (ZZ.2 O)) λX e3 ac=>?_;have:=hR X ((e1.to.trans e2.to).trans e3);simp only[iT,iM,iP,M,dE,A,zR]at this;exact this ac
   ·simp only[Zx,r,zC j];have:Q0 n S k=[]:=AS (by rw[Ha];omega);rw[this];rfl
  ·have N:¬(m<=2^k/\a<=2^k):=by
    have:¬((if(a:Int)>(m:Int)then(a:Int)else(m:Int))<=((2^k:Nat):Int)):=aa
    split at this<;>omega
   simp only[Zx,r,zB N]
 ·simp only at Y;have:k=ms.length:=by omega
  subst this;have A:Y8 n S m a=none:=LZ h r 11 O;have:=hR F (Ext.refl _ _);simp only[iT,iM,iP,M,dE,A,zR]at this;exact this h
end Go.Bu
namespace Go.Ar
open Go.Bu
structure AR where
 n:Nat
 room:Nat
 tb:List bZ
 S:Nat->Bool
 st:List Nat
 ow:Nat->Nat
 cE:List (List cG)
 cM:List gE
 runs:List (Nat×Nat)
def AR.ck (A:AR)(k:Int):Bool:=decide (0<=k)&&decide (k<(A.tb.length:Int))
def Vx (A:AR)(r:Nat×Nat):AR:={A with ow:=jx A.ow r.1 r.2 0,st:=V2 A.st r.1 r.2 2 [1],S:=Qx A.n A.S r.1 r.2}
def VR (A:AR)(rs:List (Nat×Nat)):AR:=rs.foldl Vx A
def cY (sp:Sp)(size:Nat):Option Nat:=((List.range (sp.st.length/size)).map (· * size)).find? λs=>s != 0&&fB sp s size==0
def Uv (st:List Nat)(a m:Nat):List Nat:=((List.range m).map (a + ·)).foldl (λl (h:Nat)=>iQ l h) st
def Ut (A:AR)(sp:Sp)(size:Nat):Option (AR×Sp):=match cY sp size with
 | none=>none
 | some s=>some ({A with st:=Uv A.st (s/16) (size/16),S:=Qx A.n A.S s size},fT sp s size)
def QO (m:Nat):Nat:=if m<=16 then 16 else if m<=32 then 32 else 64
def dO (A:AR)(x aF no:Nat):AR:={A with S:=take A.S x (x+aF),st:=V2 A.st x aF 1 [2,3],ow:=jx A.ow x aF no}
def cZ (A:AR)(sp:Sp)(aF align no:Nat):Option Nat×AR×Sp:=match Y8 A.n A.S aF align with
 | some x=>(some x,dO A x aF no,sp)
 | none=>match Ut A sp (QO (max aF align))with
  | none=>(none,A,sp)
  | some (A',sp')=>match Y8 A'.n A'.S aF align with
   | some x=>(some x,dO A' x aF no,sp')
   | none=>(none,A',sp')
def ZV (A:AR)(k:Int):Int:=if A.ck k then(match A.cM[k.toNat]? with
 | some t=>if t.bs=[]then 4 else 0
 | none=>5)else 1
def Ys (A:AR)(k:Int):List Int:=if ZV A k=0 then(match A.cM[k.toNat]? with
 | some t=>t.bs.getLast?.getD []
 | none=>[])else[]
def Zt (A:AR)(k:Int):AR:=if ZV A k=0 then{A with cM:=A.cM.modify k.toNat gE.rem}else A
def UT (A:AR)(k:Int)(xs:List Int):Int:=if A.ck k then(match A.tb[k.toNat]?,A.cE[k.toNat]? with
 | some c,some ss=>if xs.length=c.batch then(if xs.all (λx=>dY c ss x==some true)then 0 else 8)else 1
 | _,_=>5)else 1
def KU (A:AR)(k:Int)(xs:List Int):Bool:=decide (UT A k xs=0)&&(match A.cM[k.toNat]? with
 | some t=>decide (t.bs.length<A.room)
 | none=>false)
def QR (A:AR)(k:Int)(xs:List Int):AR:=if KU A k xs then{A with cM:=A.cM.modify k.toNat λt=>{t with bs:=t.bs++[xs]}}else A
def Qp (A:AR)(k m:Int):Int:=if A.ck k then(if m<0 then 1 else 0)else 1
def K0 (A:AR)(k m:Int):List Nat×List cG:=match A.tb[k.toNat]?,A.cE[k.toNat]? with
 | some c,some ss=>QT c m.toNat ss
 | _,_=>([],[])
def Yc (A:AR)(k m:Int):List Nat:=if Qp A k m=0 then(K0 A k m).1 else[]
def Yu (A:AR)(k m:Int):AR:=if Qp A k m=0 then{A with cE:=A.cE.set k.toNat (K0 A k m).2}else A
def QG (A:AR)(k:Int)(xs:List Int):Int:=if A.ck k then(match A.tb[k.toNat]?,A.cE[k.toNat]? with
 | some c,some ss=>iA c ss xs
 | _,_=>5)else 1
def Zr (A:AR)(k:Int)(xs:List Int):AR:=if QG A k xs=0 then(match A.tb[k.toNat]?,A.cE[k.toNat]? with
 | some c,some ss=>VR {A with cE:=A.cE.set k.toNat (cF (xs.foldl (fF c) ss))} ((Qc (xs.foldl (fF c) ss)).map λs=>(s,c.aF))
 | _,_=>A)else A
def KD (A:AR)(sp:Sp)(k:Int):Int:=if A.ck k then(match A.tb[k.toNat]?,A.cE[k.toNat]? with
 | some c,some ss=>(match (cZ A sp c.aF 1 (k.toNat+1)).1 with
  | some x=>HX c ss x
  | none=>6)
 | _,_=>5)else 1
def cL (A:AR)(sp:Sp)(k:Int):AR×Sp:=if A.ck k then(match A.tb[k.toNat]?,A.cE[k.toNat]? with
 | some c,some ss=>(match cZ A sp c.aF 1 (k.toNat+1)with
  | (some x,A',sp')=>(if HX c ss x=0 then{A' with cE:=A'.cE.set k.toNat (ie c ss x)}else A',sp')
  | (none,A',sp')=>(A',sp'))
 | _,_=>(A,sp))else(A,sp)
def Q5 (m a:Int):Bool:=decide (1<=m)&&(decide (m<=64)&&(a==1||(a==2||(a==4||(a==8||a==16)))))
def Qg (A:AR)(sp:Sp)(m a:Int):Int:=if Q5 m a then(if(cZ A sp m.toNat a.toNat 41).1.isSome then 0 else 6)else 1
def ZT (A:AR)(sp:Sp)(m a:Int):Nat:=if Q5 m a then(cZ A sp m.toNat a.toNat 41).1.getD 0 else 0
def cA (A:AR)(sp:Sp)(m a:Int):AR×Sp:=if Q5 m a then(match cZ A sp m.toNat a.toNat 41 with
 | (some x,A',sp')=>({A' with runs:=mset2 A'.runs x m.toNat},sp')
 | (none,A',sp')=>(A',sp'))else(A,sp)
where mset2 (l:List (Nat×Nat)) (x m:Nat):List (Nat×Nat):=if l.any (λr=>r.1==x)then l.map (λr=>if r.1==x then(x,m)else r)else l++[(x,m)]
def pA (A:AR)(x:Int):Option (Nat×Nat):=A.runs.find? λr=>(r.1:Int)==x
def KG (A:AR)(x:Int):Int:=if(pA A x).isSome then 0 else 8
def Qo (A:AR)(x:Int):AR:=match pA A x with
 | some r=>Vx {A with runs:=A.runs.filter λq=>!((q.1:Int)==x)} r
 | none=>A
def rF (A:AR)(p:Nat):Option (Nat×Nat):=A.runs.find? λr=>decide (r.1<=p)&&decide (p<r.1+r.2)
def UB (A:AR)(x:Int):Option (Int×Nat):=if x<0 then none else
 let p:=x.toNat/256
 let no:=if p<1024 then A.ow p else 0
 if no=0 then none else if no=41 then(rF A p).map λr=>(-1,r.1*256)else
 match A.tb[no-1]?,A.cE[no-1]? with
 | some c,some ss=>(pM c ss x).map λa=>(((no-1:Nat):Int),a)
 | _,_=>none
def uM (A:AR)(x:Int):Bool:=match UB A x with
 | some (k,a)=>if(a:Int)=x then(if k<0 then true else(match A.tb[k.toNat]?,A.cE[k.toNat]? with
  | some c,some ss=>dY c ss x==some true
  | _,_=>false))else false
 | none=>false
def GZ (A:AR)(p:Int):Bool:=decide (0<=p)&&decide (A.st.getD p.toNat 0≠0)
def ua (A:AR)(k:Nat):AR:=match A.cM[k]? with
 | some t=>t.out.foldl (λA' xs=>Zr A' k xs) {A with cM:=A.cM.set k t.tick}
 | none=>A
def qO (A:AR):AR:=(List.range A.cM.length).foldl ua A
end Go.Ar
namespace Go.Ar
open Go.Vc (bW dB cS)
inductive Ph where
 | take (k:Nat)
 | cH (k w:Nat)
 | cJ (k w:Nat)
 | grow (k w:Nat)
 | fill
 | eI (m:Nat)
 | find (x:Int)
 | put (k:Nat) (x:Int)
 | back
 | dD (s a:Int)
 | drain
 deriving DecidableEq
structure Th where
 ls:List Li
 bP:List Bt
 ph:Option Ph
structure Cf where
 aF:Nat
 gW:Nat
 threads:Nat
 dA:Nat
 room:Nat
abbrev Bk:=Int×Int×Int×Int
structure Hw where
 tb:List bZ
 cf:Cf
 sp:Sp
 bX:List AR
 bQ:List Th
 live:List (Int×Bk)
def XP (bX:List AR)(x:Int):Int:=if x<0 then -1 else match bX.findIdx? (λA=>GZ A (x/256))with
 | some i=>(i:Int)
 | none=>-1
def Hw.own (H:Hw)(t:Nat):Nat:=t%H.bX.length
def Hw.dS (H:Hw)(t:Nat)(f:Th->Th):Hw:={H with bQ:=H.bQ.modify t f}
def Hw.cC (H:Hw)(k:Nat)(A:AR):Hw:={H with bX:=H.bX.set k A}
def Vk (H:Hw)(x size cls:Int):Hw:={H with live:=dB H.live x (x,size,cls,XP H.bX x)}
def Qz (H:Hw)(t k:Nat)(xs:List Int):Hw:=H.dS t λh=>{h with bP:=h.bP++[(k,xs)]}
def jO (H:Hw)(t:Nat):Option Ph:=match H.bQ[t]? with
 | some h=>if h.bP=[]then none else some .back
 | none=>none
def ZB (bX:List AR)(xs:List Int)(a:Nat):List Int:=xs.filter λx=>XP bX x==(a:Int)
def KM (H:Hw)(k:Nat)(part:Nat->List Int)(l:List Nat):Hw:=l.foldl (λH a=>match H.bX[a]? with
 | some A=>if part a=[]then H else H.cC a (Zr A (k:Int) (part a))
 | none=>H) H
def Hx (H:Hw)(own k:Nat)(xs:List Int):Hw:=match H.bX[own]? with
 | some A=>if(ZB H.bX xs own).length=xs.length/\KU A (k:Int) xs=true then H.cC own (QR A (k:Int) xs)
  else KM (if(ZB H.bX xs own).length=xs.length then H.cC own (QR A (k:Int) xs)else H) k (ZB H.bX xs) (List.range H.bX.length)
 | none=>H
abbrev se:=Hw×Option Ph×Int×Int
def lM (H:Hw)(x:Int):Int:=if 0<=XP H.bX x then(match H.bX[(XP H.bX x).toNat]? with
 | some A=>(match UB A x with
  | some (k,y)=>if 0<=k/\(y:Int)=x then 9 else 8
  | none=>8)
 | none=>8)else 8
def UA (H:Hw)(t:Nat)(x:Int):se:=match bW H.live x with
 | none=>(H,none,0,lM H x)
 | some b=>if b.2.2.1<0 then({H with live:=cS H.live x},some (.dD (x/256) b.2.2.2),0,0)
  else(Qz {H with live:=cS H.live x} t b.2.2.1.toNat [x],some (.put b.2.2.1.toNat x),0,0)
def Hw.jK (H:Hw)(t:Nat):Th:=H.bQ.getD t ⟨[],[],none⟩
def Hw.cls (H:Hw)(k:Nat):bZ:=H.tb.getD k ⟨8,1,1⟩
def Hw.eA (H:Hw)(t:Nat):AR:=H.bX.getD (H.own t) ⟨0,0,[],λ_=>false,[],λ_=>0,[],[],[]⟩
def Th.li (h:Th)(k:Nat):Li:=h.ls.getD k ig
def Th.gI (h:Th)(k:Nat)(l:Li):Th:={h with ls:=h.ls.set k l}
def il (H:Hw)(t k:Nat)(x:Int):Hw:=
 let c:=H.cls k
 let l:=(H.jK t).li k
 let H1:=H.dS t λh=>h.gI k (dJ c x l).2
 let H2:=if(dJ c x l).1=[]then H1 else Qz H1 t k (dJ c x l).1
 let H3:=H2.dS t λh=>{h with bP:=h.bP.drop 1}
 if H.cf.dA<QN H.tb (H3.jK t).ls then H3.dS t λh=>{h with ls:=QS KC H.tb h.ls,bP:=h.bP++QW KC H.tb h.ls}else H3
def Wt (H:Hw)(t:Nat):Ph->se
 | .take k=>match QX (H.cls k) ((H.jK t).li k)with
  | (some x,l)=>(Vk (H.dS t λh=>h.gI k l) x ((H.cls k).size:Int) (k:Int),none,x,0)
  | (none,l)=>(H.dS t λh=>h.gI k l,some (.cH k (nY (H.cls k) l)),0,0)
 | .cH k w=>if w=(H.cls k).batch then(if ZV (H.eA t) (k:Int)=0 then(Qz (H.cC (H.own t) (Zt (H.eA t) (k:Int))) t k (Ys (H.eA t) (k:Int)),some .fill,0,0)else(H,some (.cJ k w),0,0))else(H,some (.cJ k w),0,0)
 | .cJ k w=>
  let H1:=H.cC (H.own t) (Yu (H.eA t) (k:Int) (w:Int))
  if Yc (H.eA t) (k:Int) (w:Int)=[]then(H1,some (.grow k w),0,0)else(Qz H1 t k ((Yc (H.eA t) (k:Int) (w:Int)).map λ(x:Nat)=>(x:Int)),some .fill,0,0)
 | .grow k w=>
  let r:=cL (H.eA t) H.sp (k:Int)
  let H1:={H.cC (H.own t) r.1 with sp:=r.2}
  if KD (H.eA t) H.sp (k:Int)=0 then(H1,some (.cJ k w),0,0)else(H1,none,0,KD (H.eA t) H.sp (k:Int))
 | .fill=>match (H.jK t).bP with
  | (k,x::xs)::_=>(Vk (H.dS t λh=>{ls:=h.ls.set k (eD xs.reverse (h.li k)),bP:=[],ph:=h.ph}) x ((H.cls k).size:Int) (k:Int),none,x,0)
  | _=>(H,none,0,0)
 | .eI m=>
  let r:=cA (H.eA t) H.sp (m:Int) 1
  let H1:={H.cC (H.own t) r.1 with sp:=r.2}
  let x:Int:=((ZT (H.eA t) H.sp (m:Int) 1*256:Nat):Int)
  if Qg (H.eA t) H.sp (m:Int) 1=0 then(Vk H1 x ((m*256:Nat):Int) (-1),none,x,0)else(H1,none,0,Qg (H.eA t) H.sp (m:Int) 1)
 | .find x=>UA H t x
 | .put k x=>(il H t k x,jO (il H t k x) t,0,0)
 | .back=>match (H.jK t).bP with
  | (k,xs)::r=>
   let H1:=Hx (H.dS t λh=>{h with bP:=r}) (H.own t) k xs
   (H1,jO H1 t,0,0)
  | []=>(H,none,0,0)
 | .dD s a=>(match H.bX[a.toNat]? with
  | some A=>H.cC a.toNat (Qo A s)
  | none=>H,none,0,0)
 | .drain=>
  let H1:=H.dS t λh=>{h with ls:=QS ZC H.tb h.ls,bP:=QW ZC H.tb h.ls}
  (H1,jO H1 t,0,0)
end Go.Ar
namespace Go.Proofs
open Go.Vc
set_option maxRecDepth 100000
def Zs.h:Hn:=.q .o1 (.q (.q (.cR (.seq [.op,.op,.op,.op,.cU false 3 (RI.ops 3)])) .aK) (.q (.q .o3 (.k (.loop [(15,.I)] (.q .o1 (.q (.c .l .l) (.q (.k (.q .o6 (.q (.cR (.hO true [1] [(37,.one .b)] (.take 0 (.all [(1,.take 2 (.take 3 (.split 23 (.take 4 (.take 5 (.take 6 (.take 7 (.take 8 (.take 9 (.take 10 (.take 11 (.take 12 (.take 13 (.take 14 (.take 15 (.take 16 (.take 17 (.done))))))))))))))) (.take 4 (.take 5 (.take 6 (.split 26 (.take 7 (.take 9 (.take 10 (.take 11 (.take 12 (.take 13 (.all [(8,.all [(14,.take 15 (.take 16 (.take 17 (.done))))]),(14,.all [(8,.take 15 (.take 16 (.take 17 (.done))))])]))))))) (.take 7 (.take 8 (.take 9 (.take 10 (.take 11 (.take 12 (.take 13 (.take 14 (.take 15 (.take 16 (.take 17 (.done)))))))))))))))))))])))) .aK))) .o2)))))) .aM))
def Zs.v (a:Sl)(b:Hp)(c:aO):Prop:=bV (λd e=>If d (c false e) (Yp [bN] (λf=>f 0 e) λg (h:Int) i=>If (h<((a.len:Nat):Int)) (Ix a.a a.len h 3 λj=>aQ j 0 i λk=>aQ j 1 i λl=>aQ j 2 i λm=>aV #[.I 0,.I 0,.I 0] 137 i λn o=>aR n 0 (.I k) o λp=>aR n 1 (.I l) p λq=>aR n 2 (.I m) q λr=>Jn [.b] (λ(s:Bool) t=>If s (c false t) (bL (h+1) λu=>g u t)) λv=>eO r λw=>aS w n 0 λx=>aS w n 1 λy=>aS w n 2 λz=>Qt.c x y z r λaa ab=>If (!aa) (v true ab) (If (h>0) (bL (h-1) λac=>Ix a.a a.len ac 3 λad=>(aQ n 0 ab λae=>aQ ad 0 ab λaf=>v (decide (ae<=af)) ab) ∧ (aQ ad 0 ab λag=>aQ n 0 ab λah=>v (decide (ah<=ag)) ab)) (v false ab))) (c true i))) λai=>If (((a.len:Nat):Int)<1) (ai true b) (ai (decide (((a.len:Nat):Int)>40)) b)
theorem Zs.o {a b c}(d:Zs.v a b c):Zs.c a b c:=Wa Tryz.func140 (x:=Zs.h) (R0 d)
def Z1.h:Hn:=.q .o4 (.q (.k (.q .o4 (.c .aL (.q (.cR (.hO true [] [(13,.one .b)] (.tk [0,1,2] (.split 16 (.tk [3,4,5,6,7,8,9,10,11,12,13,14,15,16] (.done)) (.tk [3,4,5,6] (.split 20 (.tk [7,8,9,10,11,12,13,14,15,16] (.done)) (.tk [7,8,9,10] (.split 24 (.tk [11,12,13,14,15,16] (.done)) (.take 11 (.take 13 (.all [(12,.take 14 (.take 15 (.take 16 (.done))))]))))))))))) .aJ)))) (.q .o4 (.q (.q .o2 .aJ) (.q .o3 .l))))
def Z1.v (a:Sl)(b c:Int)(d:Hp)(e:Int->Int->Hp->Prop):Prop:=aV #[.I b] 3 d λf g=>aV #[.I c] 3 g λh i=>Zs.c a i λj k=>If (!j) (e 0 2 k) (Jn [.b] (λ(l:Bool) m=>If l (e 0 1 m) (Wl.c a ⟨203,#[],#[.pointer (some f),.pointer (some h)]⟩ m λn o=>If (n<0) (e 0 4 o) (e n 0 o))) λp=>eO k λq=>gD q bN f λ(r:Int)=>If (r<1) (p true k) (gD q bN h λ(s:Int)=>If (s<1) (p true k) (gD q bN h λ(t:Int)=>If (t>256) (p true k) (gD q bN h λ(u:Int)=>gD q bN h λ(v:Int)=>Z3.c u k λw x=>And (q x) <| p (w != v) x))))
theorem Z1.o {a b c d e}(f:Z1.v a b c d e):Z1.c a b c d e:=Wa Tryz.func145 (x:=Z1.h) (R0 f)
def Qt.h:Hn:=.q .o2 (.q (.cR (.seq [.op,.op,.op,.op,.cU true 3 (RI.ops 3),.op,.cU true 4 (RI.ops 4),.op,.cU true 3 (RI.ops 3),.op,.cU true 3 (RI.ops 3),.op,.cU true 6 (RI.ops 6),.op,.cU true 3 (RI.ops 3),.op,.cU true 3 (RI.ops 3),.op])) .l)
def Qt.v (a b c:Int)(d:Hp)(e:aO):Prop:=aV #[.I a,.I b,.I c] 137 d λf g=>aQ f 0 g λh=>bV (λi j=>bV (λk l=>bV (λm n=>bV (λo p=>bV (λq r=>bV (λs t=>bV (λu v=>e u v) λw=>If s (aQ f 2 t λx=>w (decide (x<=32)) t) (w false t)) λy=>If q (aQ f 2 r λz=>y (decide (z≥1)) r) (y false r)) λaa=>If o (aQ f 1 p λab=>bL (ab*256) λac=>aQ f 0 p λad=>aa (decide (ac≥ad)) p) (aa false p)) λae=>If m (aQ f 1 n λaf=>ae (decide (af<=4)) n) (ae false n)) λag=>If k (aQ f 1 l λah=>ag (decide (ah≥1)) l) (ag false l)) λai=>If i (aQ f 0 j λaj=>Nz 8 <| ai ((aj.tmod 8)==0) j) (ai false j)) λak=>If (h≥8) (aQ f 0 g λal=>ak (decide (al<=512)) g) (ak false g)
theorem Qt.o {a b c d e}(f:Qt.v a b c d e):Qt.c a b c d e:=Wa Tryz.func176 (x:=Qt.h) (R0 f)
def Zv.h:Hn:=.q .o2 (.q .o7 .l)
def Zv.v (a b c:Int)(d:Hp)(e:aN):Prop:=aV #[.I a,.I b,.I c] 137 d λf g=>aQ f 1 g λh=>bL (h*256) λi=>aQ f 0 g λj=>Nz j<|bL (i.tdiv j) λk=>e k g
theorem Zv.o {a b c d e}(f:Zv.v a b c d e):Zv.c a b c d e:=Wa Tryz.func177 (x:=Zv.h) (R0 f)
def Z3.h:Hn:=.q .o1 (.q .o1 (.q (.q .o1 (.k (.loop [(3,.I),(4,.I)] (.q (.q .o3 (.c .l .l)) (.q (.k .o2) .o3))))) .aL))
def Z3.v (a:Int)(b:Hp)(c:aN):Prop:=Yp [bN,bN] (λd=>d 0 1 b) λe (f:Int) (g:Int) h=>If (g<=a) (bL (g*2) λi=>e g i h) (c f h)
theorem Z3.o {a b c}(d:Z3.v a b c):Z3.c a b c:=Wa Tryz.func201 (x:=Z3.h) (R0 d)
def ZG.h:Hn:=.q .o2 (.q (.cR (.seq [.op,.op,.op,.op,.op,.cU true 5 (RI.ops 5),.op])) .l)
def ZG.v (a b c:Int)(d e:Addr)(f:Hp)(g:aO):Prop:=aV #[.I a,.I b,.I c] 137 f λh i=>aQ h 0 i λj=>bM d i λk=>bV (λl m=>g l m) λn=>If (j≥k) (aQ h 0 i λo=>bM e i λp=>Nz p <| n ((o.tmod p)==0) i) (n false i)
theorem ZG.o {a b c d e f g}(h:ZG.v a b c d e f g):ZG.c a b c d e f g:=Wa Tryz.func203 (x:=ZG.h) (R0 h)
def Zn.h:Hn:=.q .o3 (.q (.q .o3 .aJ) (.q .o4 .l))
def Zn.v (a b c:Int)(d:Hp)(e:Int->Int->Hp->Prop):Prop:=aV #[.I a,.I b,.I c] 137 d λf g=>aQ f 0 g λh=>aQ f 1 g λi=>aQ f 2 g λj=>Qt.c h i j g λk l=>If (!k) (e 0 1 l) (aQ f 0 l λm=>aQ f 1 l λn=>aQ f 2 l λo=>Zv.c m n o l λp q=>e p 0 q)
theorem Zn.o {a b c d e}(f:Zn.v a b c d e):Zn.c a b c d e:=Wa Tryz.func247 (x:=Zn.h) (R0 f)
end Go.Proofs