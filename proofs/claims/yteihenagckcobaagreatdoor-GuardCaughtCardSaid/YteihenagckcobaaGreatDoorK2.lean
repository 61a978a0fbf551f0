/- Texts joined. -/
import Derived.Deep.Slices
import Derived.Deep.Fields
import Derived.ChangeSame
import Derived.Lib.SmallJoins
import Derived.Below
import Derived.Test.YteihenagckcobaaGreatDoorProg
import Derived.KernelRfl
import Derived.RangeFuncLeaves
import Derived.RangeFuncRecord
import Derived.RangeFuncSeq
import Derived.RangeFuncCalls
import Derived.OrdersIn
import Derived.TacticsIn
import Derived.RangeFuncIn
import Derived.Shelf.SlIterI.Nil
import Derived.Shelf.SortM.Plain
import Derived.Shelf.SortM.SortNone
import Derived.Ground.GgzProg
import Derived.Ground.SlgmProg
import Derived.Shelf.SlMaps.Clone
import Derived.Ground.SlmcProg
import Derived.Test.YteihenagckcobaaGreatDoorK1
set_option linter.unusedVariables false
set_option linter.unusedSimpArgs false
namespace Go.Vc
open Go
abbrev Rg:=Nat->Prop
def dM (P:Hp->Rg->Prop):Prop:=∀U σ' (F G:Rg),P U F->U.size<=σ'.size->(∀b,b<U.size->F b->G b/\σ'[b]?=U[b]?)->P σ' G
def Grow (F:Rg)(U:Hp):Rg:=λb=>F b\/U.size<=b
theorem dM.mono {P:Hp->Rg->Prop}(hl:dM P){U:Hp}{F G:Rg}(h:P U F)(hs:∀b,b<U.size->F b->G b):P U G:=hl U U F G h (zD _) λb a d=>⟨hs b a d,rfl⟩
theorem dM.bS {P:Hp->Rg->Prop}(hl:dM P){U σ':Hp}{F T:Rg}(h:P U F)(e:Ext T U σ')(hn:∀b,b<U.size->F b->¬T b):P σ' F:=
 hl U σ' F F h e.1 λb a d=>⟨d,e.2 b a (hn b a d)⟩
theorem dM.bO {P:Hp->Rg->Prop}(hl:dM P){U σ':Hp}{F:Rg}(h:P U F)(e:aG U σ'):P σ' F:=hl.bS h e λ_ _ _=>id
def Sep {L:Type}(C:L->Hp->Rg->Prop)(U:Hp)(F:Rg):Prop:=∃ρ:Nat->L,∀i,C i U λb=>F b/\ρ b=i
variable {L:Type}{C:L->Hp->Rg->Prop}{U σ':Hp}{F:Rg}
theorem Sep.loc (hC:∀i,dM (C i)):dM (Sep C):=by
 rintro U j F G ⟨ρ,h⟩ g d;exact⟨ρ,λi=>hC i _ _ _ _ (h i) g λb e a=>⟨⟨(d b e a.1).1,a.2⟩,(d b e a.1).2⟩⟩
theorem Sep.get (h:Sep C U F)(i:L):∃G:Rg,(∀b,G b->F b)/\C i U G:=by
 obtain⟨ρ,h⟩:=h;exact⟨_,λb a=>a.1,h i⟩
open Classical in
theorem Sep.step (hC:∀i,dM (C i))(h:Sep C U F)(i:L):∃G:Rg,(∀b,G b->F b)/\C i U G/\∀(σ':Hp) (C':L->Hp->Rg->Prop) (G':Rg),
 (∀j,j≠i->C' j=C j)->Ext G U σ'->(∀b,G' b->G b\/U.size<=b)->C' i σ' G'->dM (C' i)->Sep C' σ' λb=>F b/\b<U.size/\¬G b\/G' b:=by
 obtain⟨ρ,h⟩:=h;refine⟨_,λb d=>d.1,h i,λσ' C' G' u e w r s=>⟨λb=>if G' b then i else ρ b,λj=>?_⟩⟩
 by_cases hji:j=i
 ·subst hji;exact s.mono r λb _ d=>⟨.inr d,zC d⟩
 ·rw[u j hji];refine hC j _ _ _ _ (h j) e.1 λb d m=>?_;have a:¬(F b/\ρ b=i):=λp=>hji (m.2.symm.trans p.2);have g:¬G' b:=λp=>by
   rcases w b p with h1|h1
   ·exact a h1
   ·omega
  exact⟨⟨.inl ⟨m.1,d,a⟩,(zB g).trans m.2⟩,e.2 b d a⟩
open Classical in
theorem Sep.ot (hC:∀i,dM (C i))(h:Sep C U F)(i j:L)(hij:i≠j):∃G H:Rg,(∀b,G b->F b)/\(∀b,H b->F b)/\(∀b,G b->¬H b)/\C i U G/\C j U H/\∀(σ':Hp) (C':L->Hp->Rg->Prop) (G' H':Rg),
 (∀k,k≠i->k≠j->C' k=C k)->Ext (λb=>G b\/H b) U σ'->(∀b,G' b->(G b\/H b)\/U.size<=b)->(∀b,H' b->(G b\/H b)\/U.size<=b)->(∀b,G' b->¬H' b)->C' i σ' G'->C' j σ' H'->(∀k,dM (C' k)) →
 Sep C' σ' λb=>F b/\b<U.size/\¬(G b\/H b)\/G' b\/H' b:=by
 obtain⟨ρ,h⟩:=h;refine⟨_,_,λb a=>a.1,λb a=>a.1,λb g B=>hij (g.2.symm.trans B.2),h i,h j,λσ' C' G' H' z e x y hd A w u=>⟨λb=>if G' b then i else if H' b then j else ρ b,λk=>?_⟩⟩
 by_cases hki:k=i
 ·subst hki;exact(u _).mono A λb _ a=>⟨.inr (.inl a),zC a⟩
 by_cases hkj:k=j
 ·subst hkj;exact(u _).mono w λb _ a=>⟨.inr (.inr a),by show(if G' b then i else if H' b then k else ρ b)=k;rw[zB λd=>hd b d a,zC a]⟩
 ·rw[z k hki hkj];refine hC k _ _ _ _ (h k) e.1 λb a s=>?_;have r:¬((F b/\ρ b=i)\/F b/\ρ b=j):=by
   rintro(d|d)
   ·exact hki (s.2.symm.trans d.2)
   ·exact hkj (s.2.symm.trans d.2)
  have m:¬G' b:=λd=>by
   rcases x b d with g|g
   ·exact r g
   ·omega
  have p:¬H' b:=λd=>by
   rcases y b d with g|g
   ·exact r g
   ·omega
  exact⟨⟨.inl ⟨s.1,a,r⟩,by show(if G' b then i else if H' b then j else ρ b)=k;rw[zB m,zB p];exact s.2⟩,e.2 b a r⟩
def iz (p:Nat)(cs:List Value):Hp->Rg->Prop:=λU F=>F p/\bY U p cs
theorem iz.loc (p:Nat)(cs:List Value):dM (iz p cs):=λU d F G h g a=>by
 obtain⟨e,b⟩:=h.2;have:=a p h.2.lt h.1;exact⟨this.1,e,this.2.trans b⟩
def jE (r:Nat)(k:IntKind)(c:CK)(l:List (Int×c.T)):Hp->Rg->Prop:=λU F=>F r/\dH U r k c l
theorem jE.loc (r:Nat)(k:IntKind)(c:CK)(l:List (Int×c.T)):dM (jE r k c l):=λU i F G h j d=>by
 have:=d r h.2.lt h.1;obtain⟨g,b,e,a⟩:=h.2;exact⟨this.1,g,b,this.2.trans e,a⟩
def yi:Hp->Rg->Prop:=λ_ _=>True
theorem yi.loc:dM yi:=λ_ _ _ _ _ _ _=>trivial
def wB (s:Sl)(sz:Nat)(xs:List Value):Hp->Rg->Prop:=λU F=>Own F U s sz xs
theorem wB.loc (s:Sl)(sz:Nat)(xs:List Value):dM (wB s sz xs):=λU g F G h d a=>by
 refine⟨h.1,h.2.imp id ?_⟩;rintro⟨b,cs,hq,ha,⟨e,he⟩,r⟩;have:=a b (bY.lt ⟨e,he⟩) hq;exact⟨b,cs,this.1,ha,⟨e,this.2.trans he⟩,r⟩
def bR (s:Sl)(sz:Nat)(xs:List Value):Hp->Rg->Prop:=λh F=>xs.length=s.len*sz/\(s.len=0/\s.cap=0\/∃b cs,F b/\s.a=some ⟨b,0,none⟩/\bY h b cs/\s.len<=s.cap/\cs.length=s.cap*sz/\cs.take xs.length=xs)
theorem bR.loc (s:Sl)(sz:Nat)(xs:List Value):dM (bR s sz xs):=λU g F G h d a=>by
 refine⟨h.1,h.2.imp id ?_⟩;rintro⟨b,cs,hq,ha,⟨e,he⟩,r⟩;have:=a b (bY.lt ⟨e,he⟩) hq;exact⟨b,cs,this.1,ha,⟨e,this.2.trans he⟩,r⟩
theorem _root_.aI{s n xs}:dM (bR s n xs):=bR.loc _ _ _
theorem bR.nil (h:Hp)(F:Rg)(sz:Nat)(a:Option Addr):bR ⟨a,0,0⟩ sz [] h F:=⟨by simp,.inl ⟨rfl,rfl⟩⟩
theorem bR.rd {h:Hp}{F:Rg}{s:Sl}{sz:Nat}{xs:List Value}(ho:bR s sz xs h F):Rd h s.a xs:=by
 rcases ho.2 with⟨hl,_⟩|⟨b,cs,_,ha,hb,_,_,ht⟩
 ·have:=ho.1;rw[hl]at this;simp at this;subst this;cases s.a<;>simp[Rd]
 ·rw[ha];intro j v hv;rw[add_lit,hb.cell,zH];rw[←ht,zk]at hv;split at hv
  ·exact hv
  ·cases hv
theorem bR.app {F:Rg}{h:Hp}{s x:Sl}{sz bytes e:Nat}{zs xs ys:List Value}{K:Sl->Hp->Prop}(ho:bR s sz xs h F)(hz:zs.length=sz)
 (hy:ys.length=x.len*sz) (hr:Rd h x.a ys) (h1:∀v∈ys,dO v=true) (hb:(s.len+x.len)*bytes<=2^46) (hc:s.len+x.len<=2^62)
 (hx:0<x.len) (hK:∀s' h',s'.len=s.len+x.len->Ext F h h'->bR s' sz (xs++ys) h' (Grow F h)->K s' h'):App s sz bytes e zs x h K:=by
 refine⟨xs,ys,ho.1,hy,ho.rd,hr,h1,hb,hc,λg=>?_,λp c i=>?_⟩
 ·rcases ho.2 with⟨hl,hcap⟩|⟨b,cs,hQ,ha,hk,hle,hcl,ht⟩
  ·omega
  ·rw[ha];simp only;rw[add_lit];have r:(s.len+x.len)*sz<=s.cap*sz:=kS _ g;rw[zm]at r;have d:=ho.1;refine V6 hk O λh' j m=>hK _ h' rfl (Ext.eM j hQ) ⟨?_,.inr ⟨b,_,.inl hQ,rfl,m,g,?_,?_⟩⟩
   ·simp[d,hy,zm]
   ·simp;omega
   ·rw[zO,d];rw[zH,j9,←d];rw[ht,po aA,mW aA]
 ·refine hK _ _ rfl (Ext.push _ _ _) ⟨by simp[ho.1,hy,zm],.inr ⟨h.size,xs++ys++(List.replicate (c-(s.len+x.len)) zs).flatten,.inr (zD _),rfl,⟨e,by simp⟩,i,?_,?_⟩⟩
  ·simp only[zO,xq,uH,xd,ho.1,hy,hz,←zm]
   congr 1;omega
  ·rw[po aA,mW aA]
theorem bR.st {F:Rg}{h:Hp}{s:Sl}{sz:Nat}{xs:List Value}(ho:bR s sz xs h F){j:Nat}(hj:j<xs.length){v:Value}{K:aP}{a:Addr}(ha:∀b,s.a=some ⟨b,0,none⟩->a=⟨b,j,none⟩)
 (hK:∀h',Ext F h h'->bR s sz (xs.set j v) h' F->K h'):dU a v h K:=by
 rcases ho.2 with⟨hl,_⟩|⟨b,cs,hq,hsa,hb,hle,hcl,ht⟩
 ·have:=ho.1;rw[hl]at this;simp at this;subst this;simp at hj
 ·rw[ha b hsa];have d:j<cs.length:=by
   have:(cs.take xs.length).length=xs.length:=by rw[ht]
   rw[za]at this;omega
  refine⟨by rw[hb.cell,cU d];rfl,hb.nh,hK _ (Ext.jT (F:=F) hq) ⟨by simp[ho.1],.inr ⟨b,_,hq,hsa,hb.set v,hle,by simp[hcl],?_⟩⟩⟩;rw[ns,List.take_set,ht]
def cT (s:Sl)(sz:Nat)(xs:List Value):Hp->Rg->Prop:=λU F=>xs.length=s.len*sz/\(xs=[]\/∃b o cs,F b/\s.a=some ⟨b,o,none⟩/\mw U b cs/\∀j,j<xs.length->cs[o+j]?=xs[j]?)
theorem cT.loc (s:Sl)(sz:Nat)(xs:List Value):dM (cT s sz xs):=λU g F G h d a=>by
 refine⟨h.1,h.2.imp id ?_⟩;rintro⟨b,o,cs,hq,ha,⟨e,z,he⟩,r⟩;have:=a b (mw.lt ⟨e,z,he⟩) hq;exact⟨b,o,cs,this.1,ha,⟨e,z,this.2.trans he⟩,r⟩
theorem _root_.aH{s n xs}:dM (cT s n xs):=cT.loc _ _ _
theorem bR.fX {Q:Rg}{h:Hp}{s:Sl}{sz:Nat}{xs:List Value}(ho:bR s sz xs h Q):cT s sz xs h Q:=by
 refine⟨ho.1,?_⟩;rcases ho.2 with⟨hl,_⟩|⟨b,cs,hq,ha,hb,_,_,ht⟩
 ·left;have:=ho.1;rw[hl]at this;simpa using this
 ·refine .inr ⟨b,0,cs,hq,ha,hb.q,λj a=>?_⟩;rw[←ht,zk,zH,zC a]
theorem cT.cell {s:Sl}{sz:Nat}{xs:List Value}(h:cT s sz xs U F){j:Nat}{v:Value}(hv:xs[j]?=some v):∃b o,s.a=some ⟨b,o,none⟩/\Vc.cell U ⟨b,o+j,none⟩=some v:=by
 have d:=(cX.1 hv).1;rcases h.2 with h0|⟨b,o,cs,_,ha,hb,hc⟩
 ·subst h0;simp at d
 ·exact⟨b,o,ha,by rw[hb.cell,hc j d];exact hv⟩
theorem cT.mI {s:Sl}{k:IntKind}{xs:List Int}(h:cT s 1 (xs.map (Value.int k)) U F){i:Nat}{x:Int}(hx:xs[i]?=some x){K:Int->Prop}(hK:K x):Ix s.a s.len (i:Int) 1 λa=>gE k a U K:=by
 have m:=(cX.1 hx).1;obtain⟨b,o,d,g⟩:=h.cell (j:=i) (v:=.int k x) (by simp[hx]);have e:=h.1;simp at e;rw[d];refine ix O O ?_;rw[add_lit];exact nR (by simpa using g) hK
theorem cT.rd {s:Sl}{sz:Nat}{xs:List Value}(h:cT s sz xs U F):Rd U s.a xs:=by
 cases ha:s.a with
 | none=>
  rcases h.2 with h0|⟨b,o,cs,_,d,_⟩
  ·exact h0
  ·rw[ha]at d;cases d
 | some a=>
  intro j v hv;obtain⟨b,o,d,e⟩:=h.cell hv;rw[ha]at d;cases d;rw[add_lit];exact e
end Go.Vc
namespace Go.Vc
open Go Go.ChangeShapes Go.WideShapes Go.Deep Go.RowKit
def OS (U:Hp):Bool->Hp->Prop:=λb σ'=>b=true/\aG U σ'
theorem Jt {P:Program}{f:Nat}{args:Array Value}{w:World}(h:Wc P f args [.one .b] w.heap (OS w.heap)):Calls P f args w λe w'=>e=.returned (.bool true)/\Below w.heap.size w w':=by
 refine(h w rfl).mono ?_;rintro e w' ⟨a,vs,rfl,d⟩
 match vs,d with
 | [v],d=>
  obtain⟨x,rfl,m,j⟩:=d;have g:x=true:=m;subst g;exact⟨rfl,⟨a.1,a.2.1,a.2.2.1,a.2.2.2,λk i=>j.2 k i id⟩⟩
def ig (h:Hp)(l:Sl)(xs:List (Int×Int×Int)):Prop:=l.len=xs.length/\∀i x y z,xs[i]?=some (x,y,z)->∃b o,l.a=some ⟨b,o,none⟩/\b<h.size ∧
 cell h ⟨b,o+i*3,none⟩=some (.int .i64 x)/\cell h ⟨b,o+i*3+1,none⟩=some (.int .i64 y)/\cell h ⟨b,o+i*3+2,none⟩=some (.int .i64 z)
theorem DP {h:Hp}{a:Addr}{v:Value}(hc:cell h a=some v):a.block<h.size/\a.spot=none:=by
 unfold cell at hc;split at hc
 ·rename_i heq;refine⟨(zz.1 heq).1,?_⟩;cases hs:a.spot with
  | none=>rfl
  | some s=>rw[hs]at hc;simp at hc
 ·cases hc
end Go.Vc
namespace Go.Vc
open Go
theorem fE {k:IntKind}{b o i:Nat}{h:Hp}{x:Int}{K:Int->Prop}(hc:cell h ⟨b,o+i,none⟩=some (.int k x))(hK:K x):gE k (Addr.add ⟨b,o,none⟩ i) h K:=by
 rw[add_lit];exact nR hc hK
theorem cS {e:Int}{m:Nat}{K:Int->Prop}(he:e=(m:Int))(hm:m<=4611686018427387904)(hK:K (m:Int)):Ar .i64 e K:=by
 rw[he];exact ar O O hK
theorem IX {k:Nat}(h:k<=62):min ((k:Int).toNat) IntKind.i64.bits=k:=by
 have:IntKind.i64.bits=64:=rfl;rw[this];omega
theorem xT {k:IntKind}{e:Int}{K:Int->Prop}(hK:K (k.wrap e)):Ar k e K:=hK
variable {U:Hp}{b o i j:Nat}{cs:List Value}
theorem bY.rI (hb:bY U b cs){k:IntKind}{x:Int}{K:Int->Prop}(hc:cs[o+i]?=some (.int k x))(hK:K x):gE k (Addr.add ⟨b,o,none⟩ i) U K:=by
 rw[add_lit];exact nR (hb.cell.trans hc) hK
theorem bY.rB (hb:bY U b cs){x:Bool}{K:Bool->Prop}(hc:cs[o+i]?=some (.bool x))(hK:K x):lB (Addr.add ⟨b,o,none⟩ i) U K:=by
 rw[add_lit];exact nK (hb.cell.trans hc) hK
theorem bY.rP (hb:bY U b cs){x:Option Addr}{K:Option Addr->Prop}(hc:cs[o+i]?=some (.pointer x))(hK:K x):fW (Addr.add ⟨b,o,none⟩ i) U K:=by
 rw[add_lit];exact uR (hb.cell.trans hc) hK
theorem bY.rM (hb:bY U b cs){x:Option Nat}{K:Option Nat->Prop}(hc:cs[o+i]?=some (.map x))(hK:K x):ly (Addr.add ⟨b,o,none⟩ i) U K:=by
 rw[add_lit];exact Fg (hb.cell.trans hc) hK
theorem bY.rS (hb:bY U b cs){a:Option Addr}{n c:Nat}{K:Sl->Prop}(hc:cs[o+i]?=some (.slice a n c))(hK:K ⟨a,n,c⟩):ju (Addr.add ⟨b,o,none⟩ i) U K:=by
 rw[add_lit];exact og (hb.cell.trans hc) hK
theorem bY.eZ (hb:bY U b cs){k:IntKind}{x:Int}{K:Int->Prop}(hc:cs[o+i+j]?=some (.int k x))(hK:K x):gE k (Addr.add (Addr.add ⟨b,o,none⟩ i) j) U K:=by
 rw[add_lit,add_lit];exact nR (hb.cell.trans hc) hK
theorem bY.uF (hb:bY U b cs){k:IntKind}{x:Int}{K:Int->Prop}(hc:cs[o]?=some (.int k x))(hK:K x):gE k ⟨b,o,none⟩ U K:=nR (hb.cell.trans hc) hK
theorem bY.rf (hb:bY U b cs){x:Option Addr}{K:Option Addr->Prop}(hc:cs[o]?=some (.pointer x))(hK:K x):fW ⟨b,o,none⟩ U K:=uR (hb.cell.trans hc) hK
theorem bY.vd (hb:bY U b cs){a:Option Addr}{n c:Nat}{K:Sl->Prop}(hc:cs[o]?=some (.slice a n c))(hK:K ⟨a,n,c⟩):ju ⟨b,o,none⟩ U K:=og (hb.cell.trans hc) hK
theorem bY.s1 (hb:bY U b cs){v:Value}(ho:o+i<cs.length){K:aP}(hK:∀h',QB U h' b->bY h' b (cs.set (o+i) v)->K h'):dU (Addr.add ⟨b,o,none⟩ i) v U K:=by
 rw[add_lit];refine⟨?_,hb.nh,hK _ ⟨Vl _ _ _,λc a=>VL a⟩ (hb.set v)⟩;rw[hb.cell,cU ho];rfl
theorem bY.s0 (hb:bY U b cs){v:Value}(ho:o<cs.length){K:aP}(hK:∀h',QB U h' b->bY h' b (cs.set o v)->K h'):dU ⟨b,o,none⟩ v U K:=by
 refine⟨?_,hb.nh,hK _ ⟨Vl _ _ _,λc a=>VL a⟩ (hb.set v)⟩;rw[hb.cell,cU ho];rfl
theorem nw {e:Nat}{K:Addr->Hp->Prop}(hK:∀h',h'.size=U.size+1->aG U h'->bY h' U.size cs->K ⟨U.size,0,none⟩ h'):Nw (.cells cs.toArray e (0,0)) U K:=
 hK _ aA (Ext.push _ _ _) (bY.push _ _ _)
theorem sY {K:Addr->Hp->Prop}(hK:∀h',h'.size=U.size+1->aG U h'->(∀(k:IntKind) (c:CK),dH h' U.size k c [])->K ⟨U.size,0,none⟩ h'):Nw (.map #[] 0) U K:=
 hK _ aA (Ext.push _ _ _) λk c=>dH.push _ _ _
theorem mk {n bytes e:Nat}{zs:List Value}{K:Sl->Hp->Prop}(h1:bytes*n<=1073741824)(h2:n<=1073741824)
 (hK:∀h',h'.size=U.size+1->aG U h'->bY h' U.size (List.replicate n zs).flatten->K ⟨some ⟨U.size,0,none⟩,n,n⟩ h'):Mk (n:Int) (n:Int) bytes e zs U K:=by
 refine⟨O,wZ _,?_,O,?_⟩
 ·have:((bytes:Int)*(n:Int))=((bytes*n:Nat):Int):=by simp
  rw[this];omega
 ·simp only[dD];exact nw hK
theorem iQ {s:Sl}{sz lo hi mx:Nat}{K:Sl->Prop}(h1:lo<=hi)(h2:hi<=mx)(h3:mx<=s.cap)(hK:K ⟨if mx=lo then s.a else s.a.map (·.add (lo*sz)),hi-lo,mx-lo⟩):eX s sz (lo:Int) (hi:Int) (mx:Int) K:=
 ⟨O,O,O,O,by simpa using hK⟩
theorem lR (a b:Nat):(((a:Nat):Int)==((b:Nat):Int))=(a==b):=by rw[l9];simp;omega
theorem qU (a b:Nat):(((a:Nat):Int) != ((b:Nat):Int))=(a != b):=by rw[bne,bne,lR]
theorem tu (a:Nat):(((a:Nat):Int)==0)=(a==0):=lR a 0
theorem NU (a:Nat):(((a:Nat):Int) != 0)=(a != 0):=qU a 0
def ints (l:List Nat):List Value:=l.map λ(x:Nat)=>Value.int .i64 (x:Int)
theorem QS (l:List Nat):(ints l).length=l.length:=by simp[ints]
theorem O9 {l:List Nat}{i x:Nat}(h:l[i]?=some x):(ints l)[i]?=some (.int .i64 (x:Int)):=by simp[ints,h]
theorem U5 (l m:List Nat):ints (l++m)=ints l++ints m:=by simp[ints]
theorem cT.rH {s:Sl}{F:Rg}{xs:List Nat}(h:cT s 1 (ints xs) U F){i x:Nat}(hx:xs[i]?=some x){K:Int->Prop}(hK:K (x:Int)):Ix s.a s.len (i:Int) 1 λa=>gE .i64 a U K:=by
 have j:=(cX.1 hx).1;obtain⟨b,o,d,g⟩:=h.cell (O9 hx);have e:=h.1;rw[QS]at e;rw[d];refine ix O O ?_;rw[add_lit];exact nR (by simpa using g) hK
theorem cT.pJ {s:Sl}{F:Rg}{xs:List Nat}(h:cT s 1 (ints xs) U F):s.len=xs.length:=by
 have:=h.1;rw[QS]at this;omega
theorem cT.nil (F:Rg)(a:Option Addr)(c sz:Nat):cT ⟨a,0,c⟩ sz [] U F:=⟨by simp,.inl rfl⟩
theorem bY.fX {s:Sl}{sz:Nat}{xs:List Value}(hb:bY U b cs)(ha:s.a=some ⟨b,o,none⟩)(hl:xs.length=s.len*sz)(hc:∀j,j<xs.length->cs[o+j]?=xs[j]?):cT s sz xs U (· = b):=
 ⟨hl,.inr ⟨b,o,cs,rfl,ha,hb.q,hc⟩⟩
theorem cT.any {s:Sl}{sz:Nat}{xs:List Value}{F:Rg}(h:cT s sz xs U F):cT s sz xs U λ_=>True:=(cT.loc s sz xs).mono h λ_ _ _=>trivial
theorem JQ {a xa:Option Addr}{xc sz bytes e:Nat}{zs:List Value}{K:Sl->Hp->Prop}(hK:K ⟨a,0,0⟩ U):App ⟨a,0,0⟩ sz bytes e zs ⟨xa,0,xc⟩ U K:=by
 refine⟨[],[],by simp,by simp,by cases a<;>simp[Rd],by cases xa<;>simp[Rd],by simp,by simp,by simp,λ_=>?_,λh=>absurd (zD 0) h⟩
 cases a
 ·exact hK
 ·exact hK
theorem bR.push {F:Rg}{s:Sl}{sz bytes e t:Nat}{zs xs vs:List Value}{K:Sl->Hp->Prop}(ho:bR s sz xs U F)(hF:∀b,U.size<=b->F b)(hz:zs.length=sz)(hv:vs.length=sz)(h1:∀v∈vs,dO v=true)
 (hb:bytes<=1000) (hl:s.len<=1000000) (hK:∀s' h',s'.len=s.len+1->Ext F U h'->bR s' sz (xs++vs) h' F->K s' h') :
 Nw (.cells vs.toArray t (0,0)) U λn v=>App s sz bytes e zs ⟨some n,1,1⟩ v K:=by
 refine nw λv r e1 i=>?_;have a:=(bR.loc s sz xs).bO ho e1;refine a.app (ys:=vs) hz (by simp[hv]) ?_ h1 ?_ ?_ mU λs' h' g p d=>hK s' h' g (e1.to.trans p) ?_
 ·intro j u hu;rw[add_lit,zH,i.cell];exact hu
 ·simp only;have:(s.len+1)*bytes<=1000001*1000:=l5 O hb;omega
 ·simp only;omega
 ·exact aI.mono d λb _ m=>by
   rcases m with h|h
   ·exact h
   ·exact hF b O
theorem bR.pJ {F:Rg}{s:Sl}{xs:List Nat}(h:bR s 1 (ints xs) U F):s.len=xs.length:=by
 have:=h.1;rw[QS]at this;omega
theorem DM {F:Rg}{s:Sl}{sz bytes e:Nat}{zs vs:List Value}{R:Sl->Hp->Prop}(h:cT s sz vs U F)(hpos:0<sz)(hz:zs.length=sz)(h1:∀v∈vs,dO v=true)(hb:bytes<=1000)(hl:s.len<=1000000)
 (hR:∀s' σ',s'.len=s.len->aG U σ'->bR s' sz vs σ' (λb=>U.size<=b)->R s' σ') :
 If s.a.isNone (R ⟨none,0,0⟩ U) (Nw (.cells #[] e (0,0)) U λn v=>App ⟨some n,0,0⟩ sz bytes e zs s v λt v1=>R t v1):=by
 have d:=h.1;refine cO (λm=>?_) λm=>?_
 ·have u:vs=[]:=by
   rcases h.2 with g|⟨b,o,cs,_,ha,_⟩
   ·exact g
   ·rw[ha]at m;cases m
  subst u;have g:s.len=0:=by
   have x:s.len*sz=0:=by simpa using d.symm
   rcases ux.1 x with h|h
   ·exact h
   ·omega
  exact hR _ _ (by simp[g]) (Ext.refl _ _) (bR.nil _ _ _ _)
 ·refine nw (cs:=[]) λv C e1 z=>?_;have A:=(cT.loc s sz vs).bO h e1;rcases Au s.len with g|g
  ·obtain⟨a,n,c⟩:=s;simp only at g;subst g;have:vs=[]:=by simpa using d
   subst this;exact JQ (hR _ _ rfl e1 (bR.nil _ _ _ _))
  ·refine(bR.nil v (λb=>U.size<=b) sz (some ⟨U.size,0,none⟩)).app (ys:=vs) hz d A.rd h1 ?_ ?_ g λs' y p B j=>hR s' y (by simpa using p) ?_ ?_
   ·simp only[zH];have:s.len*bytes<=1000000*1000:=l5 hl hb;omega
   ·simp only;omega
   ·exact Ext.fresh e1 B λi w=>w
   ·rw[tW]at j;exact aI.mono j λb _ r=>by
     rcases r with h|h
     ·exact h
     ·omega
def Cut (F:Rg)(U:Hp):Rg:=λb=>F b/\b<U.size
theorem dM.cut {P:Hp->Rg->Prop}(hl:dM P){F:Rg}(h:P U F):P U (Cut F U):=hl.mono h λb a d=>⟨d,a⟩
theorem Ext.cut {F:Rg}{σ':Hp}(e:Ext (Cut F U) U σ'):Ext F U σ':=⟨e.1,λb a g=>e.2 b a λd=>g d.1⟩
theorem Ext.sub {F G:Rg}{a b:Hp}(e:Ext F a b)(h:∀i,F i->G i):Ext G a b:=e.mono λi _ d=>h i d
theorem QB.ext {h h':Hp}{r:Nat}(ho:QB h h' r):Ext (· = r) h h':=Ext.eM ho rfl
theorem Ext.jt {F:Rg}{a b c:Hp}(e:Ext F a b)(k:Ext (Grow F a) b c):Ext F a c:=
 ⟨zY e.1 k.1,λi d g=>(k.2 i (uG d e.1) λj=>by rcases j with h|h;exact g h;omega).trans (e.2 i d g)⟩
theorem Ext.dW {F G:Rg}{a b c:Hp}(e:Ext F a b)(k:Ext G b c)(h:∀i,G i->F i\/a.size<=i):Ext F a c:=e.jt (k.sub h)
theorem pK {P:Program}{f:Nat}{first caps:Array Value}{args:List Value}{all:Array Value}{rs:List SK}{R:eR (eT rs)}(hok:V4 P f=true)(he:first++args.toArray++caps=all)
 (hc:Wc P f all rs U R):V5 P ⟨f,first,caps⟩ args rs U R:=⟨hok,by unfold EE;simp only;rw[he];exact hc⟩
theorem Q9 {h h':Hp}{F:Nat->Prop}(e:Ext F h h'){b o:Nat}(hb:b<h.size)(hF:¬F b):cell h' ⟨b,o,none⟩=cell h ⟨b,o,none⟩:=by
 unfold cell;rw[e.2 b hb hF]
theorem Lg {h h':Hp}{l:Sl}{xs:List (Int×Int×Int)}{F:Nat->Prop}(ha:ig h l xs)(e:Ext F h h')(hF:∀b,F b->∀o,l.a≠some ⟨b,o,none⟩):ig h' l xs:=by
 refine⟨ha.1,λi x y z u=>?_⟩;obtain⟨b,o,j,d,m,r,s⟩:=ha.2 i x y z u;have g:¬F b:=λp=>hF b p o j;exact⟨b,o,j,uG d e.1,by rw[Q9 e d g];exact m,by rw[Q9 e d g];exact r,by rw[Q9 e d g];exact s⟩
theorem Z0 {h h':Hp}{l:Sl}{xs:List (Int×Int×Int)}(ha:ig h l xs)(e:aG h h'):ig h' l xs:=Lg ha e λ_ h=>h.elim
theorem xz {h:Hp}{l:Sl}{xs:List (Int×Int×Int)}(ha:ig h l xs){i:Nat}{x y z:Int}(hx:xs[i]?=some (x,y,z)){K:Int->Int->Int->Prop}(hK:K x y z) :
 Ix l.a l.len (i:Int) 3 λa=>gE .i64 (a.add 0) h λu=>gE .i64 (a.add 1) h λv=>gE .i64 (a.add 2) h λw=>K u v w:=by
 obtain⟨b,o,j,p,d,e,g⟩:=ha.2 i x y z hx;have m:=(cX.1 hx).1;rw[j];refine ix O (by rw[ha.1];omega) ?_;rw[add_lit];refine fE (by simpa using d) (fE (by simpa using e) (fE (by simpa using g) hK))
end Go.Vc
namespace Go.Proofs
open Go.Vc
abbrev _root_.R1:=@Wc Tryz.prog
abbrev _root_.R2:=Option Addr
def WL.c (a b c d e f:Int)(g:Sl)(h i j:Int)(k:Hp)(l:aO):Prop:=R1 7 #[.agg #[.I a,.I b,.I c,.I d,.I e,.I f],.slice g.a g.len g.cap,.int .u8 h,.int .u8 i,.I j] [.one .b] k l
def XM.c (a b c d e f:Int)(g:Sl)(h:Int)(i:Hp)(j:Option Addr->Hp->Prop):Prop:=R1 11 #[.agg #[.I a,.I b,.I c,.I d,.I e,.I f],.slice g.a g.len g.cap,.I h] [.one .p] i j
def XP.c (a:Sl)(b:Int)(c:Hp)(d:aO):Prop:=R1 12 #[.slice a.a a.len a.cap,.I b] [.one .b] c d
def Wz.c (a:Hp)(b:aO):Prop:=R1 13 #[] [.one .b] a b
def Xt.c (a:R2)(b c d:Int)(e:Hp)(f:Int->Int->Hp->Prop):Prop:=R1 14 #[.pointer a,.I b,.I c,.I d] [.I,.I] e f
def YR.c (a:Int)(b:Hp)(c:aN):Prop:=R1 15 #[.I a] [.I] b c
def YL.c (a:R2)(b:Int)(c:Hp)(d:Int->Int->Hp->Prop):Prop:=R1 16 #[.pointer a,.I b] [.I,.I] c d
def Xo.c (a:R2)(b c:Int)(d:Hp)(e:aN):Prop:=R1 17 #[.pointer a,.I b,.I c] [.I] d e
def YK.c (a:Sl)(b c d e f g h:Int)(i:ByteArray)(j:Hp)(k:aN):Prop:=R1 18 #[.slice a.a a.len a.cap,.agg #[.I b,.I c,.I d,.I e,.I f,.I g,.I h,.string i]] [.I] j k
def Xk.c (a:R2)(b c d e f g h:Int)(i:ByteArray)(j:Hp)(k:aN):Prop:=R1 19 #[.pointer a,.agg #[.I b,.I c,.I d,.I e,.I f,.I g,.I h,.string i]] [.I] j k
def X4.c (a:R2)(b:Hp)(c:Sl->Hp->Prop):Prop:=R1 20 #[.pointer a] [.one .s] b c
def W7.c (a:R2)(b:Int)(c:Hp)(d:Sl->Int->Hp->Prop):Prop:=R1 21 #[.pointer a,.I b] [.one .s,.I] c d
def XC.c (a:R2)(b:Hp)(c:Sl->Hp->Prop):Prop:=R1 22 #[.pointer a] [.one .s] b c
def YN.c (a:R2)(b:Int)(c:Hp)(d:Int->Int->Int->Int->Int->Hp->Prop):Prop:=R1 23 #[.pointer a,.I b] [.agg [bN,bN,bN,bN],.I] c d
def YP.c (a:R2)(b:Hp)(c:Option Addr->Hp->Prop):Prop:=R1 24 #[.pointer a] [.one .p] b c
def Xx.c (a:R2)(b:Int)(c:Hp)(d:Int->Int->Hp->Prop):Prop:=R1 25 #[.pointer a,.I b] [.I,.I] c d
def XL.c (a b c d e:Int)(f:Hp)(g:aN):Prop:=R1 26 #[.agg #[.I a,.I b,.I c,.I d],.int .u8 e] [.I] f g
def WN.c (a:R2)(b c:Int)(d:Hp)(e:aN):Prop:=R1 27 #[.pointer a,.I b,.I c] [.I] d e
def Xh.c (a:R2)(b:Hp)(c:Sl->Hp->Prop):Prop:=R1 28 #[.pointer a] [.one .s] b c
def Wy.c (a:R2)(b c:Int)(d:Hp)(e:aN):Prop:=R1 29 #[.pointer a,.I b,.I c] [.I] d e
def WS.c (a b:Sl)(c:Hp)(d:aO):Prop:=R1 30 #[.slice a.a a.len a.cap,.slice b.a b.len b.cap] [.one .b] c d
def XN.c (a b:Sl)(c:Hp)(d:aO):Prop:=R1 31 #[.slice a.a a.len a.cap,.slice b.a b.len b.cap] [.one .b] c d
def Zr.c (a:R2)(b:Hp)(c:Sl->Hp->Prop):Prop:=R1 32 #[.pointer a] [.one .s] b c
def QG.c (a:R2)(b:Hp)(c:Option Addr->Int->Hp->Prop):Prop:=R1 33 #[.pointer a] [.one .p,.I] b c
def Xu.c (a:Hp)(b:Option Addr->Hp->Prop):Prop:=R1 37 #[] [.one .p] a b
def WK.c (a b c d e f:Int)(g:Hp)(h:aO):Prop:=R1 38 #[.agg #[.I a,.I b,.I c,.I d,.I e,.I f]] [.one .b] g h
def Xw.c (a b c d e f:Int)(g:Hp)(h:Option Addr->Hp->Prop):Prop:=R1 39 #[.agg #[.I a,.I b,.I c,.I d,.I e,.I f]] [.one .p] g h
def WG.c (a:R2)(b:Hp)(c:aO):Prop:=R1 42 #[.pointer a] [.one .b] b c
def YV.c (a:R2)(b c d:Int)(e:Hp)(f:Int->Int->Hp->Prop):Prop:=R1 43 #[.pointer a,.I b,.I c,.I d] [.I,.I] e f
def Xn.c (a b c d e:Int)(f:Hp)(g:aN):Prop:=R1 44 #[.agg #[.I a,.I b,.I c,.I d,.I e]] [.I] f g
def XH.c (a b c d e:Int)(f:Hp)(g:Fv->Hp->Prop):Prop:=R1 45 #[.agg #[.I a,.I b,.I c,.I d,.I e]] [.one .fn] f g
def ZM.c (a:Int)(b:Hp)(c:aN):Prop:=R1 46 #[.I a] [.I] b c
def Yf.c (a:R2)(b c d e f g:Int)(h:Hp)(i:aP):Prop:=R1 47 #[.pointer a,.agg #[.I b,.I c,.I d,.I e,.I f],.I g] [] h i
def X8.c (a:R2)(b:Int)(c:Hp)(d:aN):Prop:=R1 48 #[.pointer a,.I b] [.I] c d
def Yq.c (a:R2)(b:Int)(c:Hp)(d:Int->Int->Hp->Prop):Prop:=R1 49 #[.pointer a,.I b] [.I,.I] c d
def QM.c (a:Fv)(b:Hp)(c:Sl->Hp->Prop):Prop:=R1 50 #[.func (.func a.f) a.first a.captured] [.one .s] b c
def Zl.c (a:Option Nat)(b:Hp)(c:Fv->Hp->Prop):Prop:=R1 51 #[.map a] [.one .fn] b c
def W9.c (a:R2)(b c d e f:Int)(g:Hp)(h:aO):Prop:=R1 52 #[.pointer a,.agg #[.I b,.I c,.I d,.I e,.I f]] [.one .b] g h
def Xb.c (a:R2)(b c d e f:Int)(g:Hp)(h:Sl->Hp->Prop):Prop:=R1 53 #[.pointer a,.agg #[.I b,.I c,.I d,.I e,.I f]] [.one .s] g h
def Vf.c (a:Sl)(b:Hp)(c:aP):Prop:=R1 54 #[.slice a.a a.len a.cap] [] b c
def WX.c (a:Sl)(b:Hp)(c:Sl->Hp->Prop):Prop:=R1 55 #[.slice a.a a.len a.cap] [.one .s] b c
def Za.c (a:R2)(b:Int)(c:Fv)(d:Hp)(e:Int->Int->Int->Int->Int->Bool->Hp->Prop):Prop:=R1 56 #[.pointer a,.I b,.func (.func c.f) c.first c.captured] [.agg [bN,bN,bN,bN,bN],.one .b] d e
def YD.c (a b c d e:Int)(f:Hp)(g:aN):Prop:=R1 57 #[.agg #[.I a,.I b,.I c,.I d,.I e]] [.I] f g
def Xj.c (a:R2)(b:Hp)(c:aO):Prop:=R1 58 #[.pointer a] [.one .b] b c
def Xv.c (a b c d:Int)(e:Hp)(f:Sl->Hp->Prop):Prop:=R1 59 #[.agg #[.I a,.I b,.I c,.I d]] [.one .s] e f
def XO.c (a b c d:Int)(e:Hp)(f:Sl->Hp->Prop):Prop:=R1 60 #[.agg #[.I a,.I b,.I c,.I d]] [.one .s] e f
def YF.c (a:R2)(b:Hp)(c:Option Addr->Hp->Prop):Prop:=R1 61 #[.pointer a] [.one .p] b c
def Yk.c (a:R2)(b c:Int)(d:Hp)(e:aN):Prop:=R1 62 #[.pointer a,.I b,.I c] [.I] d e
def Ye.c (a:R2)(b c:Int)(d:Bool)(e:Hp)(f:aN):Prop:=R1 63 #[.pointer a,.I b,.I c,.bool d] [.I] e f
def ZB.c (a:Option Nat)(b:Hp)(c:Fv->Hp->Prop):Prop:=R1 64 #[.map a] [.one .fn] b c
def Qy.c (a:R2)(b:Hp)(c:aO):Prop:=R1 65 #[.pointer a] [.one .b] b c
def Wv.c (a b c d e f:Int)(g:Hp)(h:Option Addr->Hp->Prop):Prop:=R1 69 #[.agg #[.I a,.I b,.I c,.I d,.I e,.I f]] [.one .p] g h
def Zq.c (a:R2)(b c:Int)(d:Hp)(e:aN):Prop:=R1 70 #[.pointer a,.I b,.I c] [.I] d e
def Y3.c (a:R2)(b c d e f:Int)(g:Hp)(h:aN):Prop:=R1 72 #[.pointer a,.I b,.agg #[.I c,.I d,.I e,.I f]] [.I] g h
def Y6.c (a:R2)(b:Int)(c:Hp)(d:Bool->Int->Int->Int->Hp->Prop):Prop:=R1 73 #[.pointer a,.I b] [.one .b,.agg [bN,bN],.I] c d
def XJ.c (a:R2)(b:Hp)(c:aN):Prop:=R1 79 #[.pointer a] [.I] b c
def Yh.c (a:R2)(b c d e f:Int)(g:Hp)(h:Int->Int->Hp->Prop):Prop:=R1 81 #[.pointer a,.I b,.agg #[.I c,.I d,.I e,.I f]] [.I,.I] g h
def YJ.c (a:R2)(b:Int)(c:Hp)(d:Int->Int->Hp->Prop):Prop:=R1 83 #[.pointer a,.I b] [.I,.I] c d
def Vs.c (a:Fv)(b:Hp)(c:Sl->Hp->Prop):Prop:=R1 84 #[.func (.func a.f) a.first a.captured] [.one .s] b c
def Z8.c (a:Fv)(b:Addr)(c:Hp)(d:aP):Prop:=R1 85 #[.func (.func a.f) a.first a.captured,.pointer (some b)] [] c d
def Xp.c (a:R2)(b c:Int)(d:Hp)(e:aN):Prop:=R1 88 #[.pointer a,.I b,.I c] [.I] d e
def Y9.c (a:R2)(b c:Int)(d:Hp)(e:aP):Prop:=R1 89 #[.pointer a,.I b,.I c] [] d e
def Yt.c (a:R2)(b:Int)(c:Hp)(d:aN):Prop:=R1 90 #[.pointer a,.I b] [.I] c d
def Qm.c (a:Fv)(b:Addr)(c:Hp)(d:aP):Prop:=R1 91 #[.func (.func a.f) a.first a.captured,.pointer (some b)] [] c d
def X0.c (a:R2)(b:Hp)(c:Int->Int->Int->Int->Int->Hp->Prop):Prop:=R1 92 #[.pointer a] [.agg [bN,bN,bN,bN,bN]] b c
def Wi.c (a:Sl)(b:Hp)(c:Sl->Hp->Prop):Prop:=R1 93 #[.slice a.a a.len a.cap] [.one .s] b c
def WE.c (a:Sl)(b:Hp)(c:Sl->Hp->Prop):Prop:=R1 98 #[.slice a.a a.len a.cap] [.one .s] b c
def WT.c (a:Int)(b:Hp)(c:Sl->Int->Hp->Prop):Prop:=R1 100 #[.I a] [.one .s,.I] b c
def KF.c (a:Sl)(b c d e f:Int)(g:Hp)(h:Option Addr->Int->Hp->Prop):Prop:=R1 101 #[.slice a.a a.len a.cap,.agg #[.I b,.I c,.I d,.I e,.I f]] [.one .p,.I] g h
def X5.c (a:R2)(b:Int)(c:Hp)(d:aO):Prop:=R1 102 #[.pointer a,.I b] [.one .b] c d
def Yl.c (a:R2)(b c d e:Int)(f:Hp)(g:Value->Hp->Prop):Prop:=R1 103 #[.pointer a,.agg #[.I b,.I c,.I d,.I e]] [.one .raw] f g
def Zp.c (a:R2)(b:Int)(c:Value)(d:Hp)(e:Value->Int->Int->Hp->Prop):Prop:=R1 104 #[.pointer a,.I b,c] [.one .raw,.agg [bN,bN]] d e
def XB.c (a:R2)(b:Hp)(c:aN):Prop:=R1 108 #[.pointer a] [.I] b c
def Xy.c (a:R2)(b:Hp)(c:aO):Prop:=R1 109 #[.pointer a] [.one .b] b c
def Xc.c (a:R2)(b:Hp)(c:aO):Prop:=R1 110 #[.pointer a] [.one .b] b c
def Xa.c (a:R2)(b:Hp)(c:aO):Prop:=R1 111 #[.pointer a] [.one .b] b c
def Y5.c (a:R2)(b:Int)(c:Hp)(d:aN):Prop:=R1 117 #[.pointer a,.I b] [.I] c d
def Wk.c (a:Sl)(b c:Bool)(d:Hp)(e:aO):Prop:=R1 130 #[.slice a.a a.len a.cap,.agg #[.bool b,.bool c]] [.one .b] d e
def Ze.c (a:R2)(b:Int)(c:Hp)(d:ByteArray->Hp->Prop):Prop:=R1 131 #[.pointer a,.I b] [.one .str] c d
def Xg.c (a b:Int)(c:Hp)(d:Int->Int->Int->Hp->Prop):Prop:=R1 137 #[.I a,.I b] [.agg [bN,bN,bN]] c d
def XS.c (a b:Int)(c:Hp)(d:aN):Prop:=R1 138 #[.I a,.I b] [.I] c d
def WM.c (a b c:Int)(d:Hp)(e:aN):Prop:=R1 139 #[.agg #[.I a,.I b,.I c]] [.I] d e
def ZD.c (a:Sl)(b:Hp)(c:aO):Prop:=R1 140 #[.slice a.a a.len a.cap] [.one .b] b c
def Qz.c (a b c d e:Int)(f:Hp)(g:aO):Prop:=R1 141 #[.agg #[.I a,.I b,.I c,.I d,.I e]] [.one .b] f g
def QZ.c (a:Int)(b:Hp)(c:Option Addr->Int->Hp->Prop):Prop:=R1 142 #[.I a] [.one .p,.I] b c
def QY.c (a:Sl)(b:R2)(c:Int)(d:Hp)(e:Option Addr->Int->Hp->Prop):Prop:=R1 143 #[.slice a.a a.len a.cap,.pointer b,.I c] [.one .p,.I] d e
def Q0.c (a:Sl)(b:Int)(c:Hp)(d:Option Addr->Int->Hp->Prop):Prop:=R1 144 #[.slice a.a a.len a.cap,.I b] [.one .p,.I] c d
def Qd.c (a:Sl)(b c:Int)(d:Hp)(e:Int->Int->Hp->Prop):Prop:=R1 145 #[.slice a.a a.len a.cap,.I b,.I c] [.I,.I] d e
def Zw.c (a:R2)(b:Int)(c:Hp)(d:aN):Prop:=R1 146 #[.pointer a,.I b] [.I] c d
def X3.c (a:R2)(b:Int)(c:Hp)(d:Int->Int->Hp->Prop):Prop:=R1 147 #[.pointer a,.I b] [.I,.I] c d
def YS.c (a:R2)(b c d:Int)(e:Hp)(f:Value->Int->Int->Hp->Prop):Prop:=R1 148 #[.pointer a,.I b,.I c,.I d] [.one .raw,.agg [bN,bN]] e f
def Yi.c (a:R2)(b:Int)(c:Hp)(d:Int->Int->Hp->Prop):Prop:=R1 149 #[.pointer a,.I b] [.I,.I] c d
def WB.c (a:R2)(b:Int)(c:Hp)(d:Sl->Int->Hp->Prop):Prop:=R1 150 #[.pointer a,.I b] [.one .s,.I] c d
def Yu.c (a:R2)(b c:Int)(d:Sl)(e:Hp)(f:aP):Prop:=R1 151 #[.pointer a,.I b,.I c,.slice d.a d.len d.cap] [] e f
def WD.c (a:R2)(b c:Int)(d:Hp)(e:Sl->Int->Hp->Prop):Prop:=R1 152 #[.pointer a,.I b,.I c] [.one .s,.I] d e
def XY.c (a:R2)(b:Int)(c:Hp)(d:aN):Prop:=R1 153 #[.pointer a,.I b] [.I] c d
def Ya.c (a:R2)(b:Int)(c:Sl)(d:Hp)(e:aN):Prop:=R1 154 #[.pointer a,.I b,.slice c.a c.len c.cap] [.I] d e
def WP.c (a:R2)(b c:Int)(d:Hp)(e:Int->Int->Hp->Prop):Prop:=R1 155 #[.pointer a,.I b,.I c] [.I,.I] d e
def Zs.c (a:R2)(b c:Int)(d:Hp)(e:Value->Int->Int->Hp->Prop):Prop:=R1 156 #[.pointer a,.I b,.I c] [.one .raw,.agg [bN,bN]] d e
def YE.c (a:R2)(b c:Int)(d:Hp)(e:Sl->Int->Hp->Prop):Prop:=R1 157 #[.pointer a,.I b,.I c] [.one .s,.I] d e
def Yb.c (a:R2)(b:Hp)(c:aO):Prop:=R1 158 #[.pointer a] [.one .b] b c
def W0.c (a:R2)(b:Hp)(c:Sl->Hp->Prop):Prop:=R1 159 #[.pointer a] [.one .s] b c
def WZ.c (a:R2)(b:Int)(c:Hp)(d:Value->Hp->Prop):Prop:=R1 160 #[.pointer a,.I b] [.one .raw] c d
def Wq.c (a:Sl)(b:Hp)(c:Sl->Hp->Prop):Prop:=R1 161 #[.slice a.a a.len a.cap] [.one .s] b c
def Zv.c (a:R2)(b c:Int)(d:Sl)(e:Hp)(f:aP):Prop:=R1 162 #[.pointer a,.I b,.agg #[.I c,.slice d.a d.len d.cap]] [] e f
def WO.c (a:R2)(b:Int)(c:Hp)(d:aN):Prop:=R1 163 #[.pointer a,.I b] [.I] c d
def XE.c (a:R2)(b:Hp)(c:Sl->Hp->Prop):Prop:=R1 164 #[.pointer a] [.one .s] b c
def X6.c (a:R2)(b:Sl)(c:Hp)(d:aP):Prop:=R1 165 #[.pointer a,.slice b.a b.len b.cap] [] c d
def XQ.c (a:R2)(b:Hp)(c:Sl->Hp->Prop):Prop:=R1 166 #[.pointer a] [.one .s] b c
def WQ.c (a:R2)(b:Int)(c:Sl)(d:Hp)(e:aN):Prop:=R1 175 #[.pointer a,.I b,.slice c.a c.len c.cap] [.I] d e
def QF.c (a b c:Int)(d:Hp)(e:aO):Prop:=R1 176 #[.agg #[.I a,.I b,.I c]] [.one .b] d e
def ZI.c (a b c:Int)(d:Hp)(e:aN):Prop:=R1 177 #[.agg #[.I a,.I b,.I c]] [.I] d e
def WJ.c (a:R2)(b:Hp)(c:aO):Prop:=R1 178 #[.pointer a] [.one .b] b c
def ZH.c (a:R2)(b:Hp)(c:Int->Int->Hp->Prop):Prop:=R1 179 #[.pointer a] [.agg [bN,bN]] b c
def Xe.c (a:R2)(b:Hp)(c:aO):Prop:=R1 180 #[.pointer a] [.one .b] b c
def Yo.c (a:R2)(b:Hp)(c:aN):Prop:=R1 182 #[.pointer a] [.I] b c
def Yg.c (a:R2)(b:Hp)(c:aO):Prop:=R1 183 #[.pointer a] [.one .b] b c
def Wo.c (a:Sl)(b c:Bool)(d:Hp)(e:aN):Prop:=R1 190 #[.slice a.a a.len a.cap,.agg #[.bool b,.bool c]] [.I] d e
def Xm.c (a:R2)(b:Hp)(c:aO):Prop:=R1 191 #[.pointer a] [.one .b] b c
def Xz.c (a:R2)(b:Hp)(c:aO):Prop:=R1 192 #[.pointer a] [.one .b] b c
def Qe.c (a:Hp)(b:Option Addr->Hp->Prop):Prop:=R1 193 #[] [.one .p] a b
def YG.c (a:R2)(b c d:Int)(e:Hp)(f:aN):Prop:=R1 195 #[.pointer a,.I b,.I c,.I d] [.I] e f
def QX.c (a:Int)(b:Hp)(c:Option Addr->Int->Hp->Prop):Prop:=R1 197 #[.I a] [.one .p,.I] b c
def KD.c (a:Int)(b:Hp)(c:Option Addr->Int->Hp->Prop):Prop:=R1 198 #[.I a] [.one .p,.I] b c
def Qf.c (a b c:Int)(d:Hp)(e:Option Addr->Int->Hp->Prop):Prop:=R1 199 #[.agg #[.I a,.I b,.I c]] [.one .p,.I] d e
def ZX.c (a b:Int)(c:Hp)(d:Option Addr->Int->Hp->Prop):Prop:=R1 200 #[.I a,.I b] [.one .p,.I] c d
def Qg.c (a:Int)(b:Hp)(c:aN):Prop:=R1 201 #[.I a] [.I] b c
def Wm.c (a:Sl)(b:Fv)(c:Hp)(d:aN):Prop:=R1 202 #[.slice a.a a.len a.cap,.func (.func b.f) b.first b.captured] [.I] c d
def ZZ.c (a b c:Int)(d e:Addr)(f:Hp)(g:aO):Prop:=R1 203 #[.agg #[.I a,.I b,.I c],.pointer (some d),.pointer (some e)] [.one .b] f g
def Xl.c (a:R2)(b:Int)(c:Hp)(d:Option Addr->Int->Hp->Prop):Prop:=R1 204 #[.pointer a,.I b] [.one .p,.I] c d
def Yc.c (a:R2)(b:Int)(c:Hp)(d:aN):Prop:=R1 205 #[.pointer a,.I b] [.I] c d
def WR.c (a:R2)(b:Int)(c:Hp)(d:aN):Prop:=R1 206 #[.pointer a,.I b] [.I] c d
def WC.c (a:R2)(b:Hp)(c:Sl->Int->Hp->Prop):Prop:=R1 207 #[.pointer a] [.one .s,.I] b c
def W6.c (a:R2)(b:Int)(c:Hp)(d:Sl->Int->Hp->Prop):Prop:=R1 208 #[.pointer a,.I b] [.one .s,.I] c d
def YC.c (a:R2)(b c d:Int)(e:Hp)(f:Int->Int->Hp->Prop):Prop:=R1 209 #[.pointer a,.I b,.I c,.I d] [.I,.I] e f
def YT.c (a:R2)(b:Int)(c:Hp)(d:aN):Prop:=R1 210 #[.pointer a,.I b] [.I] c d
def WW.c (a:Sl)(b:Hp)(c:aP):Prop:=R1 211 #[.slice a.a a.len a.cap] [] b c
def WV.c (a:R2)(b:Sl)(c:Hp)(d:aN):Prop:=R1 212 #[.pointer a,.slice b.a b.len b.cap] [.I] c d
def YW.c (a:R2)(b:Int)(c:Hp)(d:Int->Int->Int->Hp->Prop):Prop:=R1 213 #[.pointer a,.I b] [.I,.I,.I] c d
def W8.c (a:R2)(b:Int)(c:Hp)(d:Sl->Hp->Prop):Prop:=R1 214 #[.pointer a,.I b] [.one .s] c d
def Xi.c (a:R2)(b:Fv)(c:Hp)(d:Sl->Hp->Prop):Prop:=R1 215 #[.pointer a,.func (.func b.f) b.first b.captured] [.one .s] c d
def Xs.c (a:R2)(b:Int)(c:Hp)(d:Sl->Hp->Prop):Prop:=R1 216 #[.pointer a,.I b] [.one .s] c d
def WH.c (a:R2)(b:Int)(c:Sl)(d:Hp)(e:Bool->Int->Hp->Prop):Prop:=R1 217 #[.pointer a,.I b,.slice c.a c.len c.cap] [.one .b,.I] d e
def Yx.c (a:R2)(b:Int)(c:Hp)(d:Sl->Hp->Prop):Prop:=R1 218 #[.pointer a,.I b] [.one .s] c d
def XD.c (a:R2)(b c:Int)(d:Hp)(e:aN):Prop:=R1 219 #[.pointer a,.I b,.I c] [.I] d e
def Xr.c (a:R2)(b c:Int)(d:Hp)(e:aN):Prop:=R1 220 #[.pointer a,.I b,.I c] [.I] d e
def XZ.c (a:R2)(b c:Int)(d:Hp)(e:aN):Prop:=R1 221 #[.pointer a,.I b,.I c] [.I] d e
def We.c (a:Sl)(b:Fv)(c:Hp)(d:Sl->Hp->Prop):Prop:=R1 222 #[.slice a.a a.len a.cap,.func (.func b.f) b.first b.captured] [.one .s] c d
def XT.c (a b:Int)(c:R2)(d:Addr)(e:Hp)(f:aO):Prop:=R1 223 #[.agg #[.I a,.I b,.pointer c],.pointer (some d)] [.one .b] e f
def YO.c (a:R2)(b:Hp)(c:aN):Prop:=R1 224 #[.pointer a] [.I] b c
def Zg.c (a:R2)(b:Int)(c:Hp)(d:Sl->Hp->Prop):Prop:=R1 226 #[.pointer a,.I b] [.one .s] c d
def XF.c (a:R2)(b c d:Int)(e:Sl)(f:Hp)(g:aN):Prop:=R1 230 #[.pointer a,.I b,.I c,.I d,.slice e.a e.len e.cap] [.I] f g
def Ym.c (a:R2)(b:Int)(c:Hp)(d:Sl->Int->Hp->Prop):Prop:=R1 233 #[.pointer a,.I b] [.one .s,.I] c d
def Qt.c (a:Sl)(b:Int)(c:Hp)(d:aP):Prop:=R1 235 #[.slice a.a a.len a.cap,.I b] [] c d
def YX.c (a:R2)(b c:Int)(d:Hp)(e:aN):Prop:=R1 236 #[.pointer a,.I b,.I c] [.I] d e
def Ys.c (a:R2)(b:Int)(c:Hp)(d:aO):Prop:=R1 237 #[.pointer a,.I b] [.one .b] c d
def Zt.c (a:R2)(b c:Int)(d:Hp)(e:aP):Prop:=R1 238 #[.pointer a,.I b,.I c] [] d e
def YM.c (a:R2)(b:Sl)(c:Hp)(d:Sl->Int->Hp->Prop):Prop:=R1 241 #[.pointer a,.slice b.a b.len b.cap] [.one .s,.I] c d
def Yp.c (a:R2)(b:Hp)(c:aO):Prop:=R1 242 #[.pointer a] [.one .b] b c
def Y7.c (a:R2)(b:Int)(c:Hp)(d:aN):Prop:=R1 245 #[.pointer a,.I b] [.I] c d
def Zc.c (a:R2)(b c:Int)(d:Hp)(e:aP):Prop:=R1 246 #[.pointer a,.I b,.I c] [] d e
def Zx.c (a b c:Int)(d:Hp)(e:Int->Int->Hp->Prop):Prop:=R1 247 #[.agg #[.I a,.I b,.I c]] [.I,.I] d e
def Zu.c (a:R2)(b:Int)(c:Hp)(d:Option Addr->Hp->Prop):Prop:=R1 248 #[.pointer a,.I b] [.one .p] c d
def Wl.c (a:Sl)(b:Fv)(c:Hp)(d:aN):Prop:=R1 249 #[.slice a.a a.len a.cap,.func (.func b.f) b.first b.captured] [.I] c d
def YZ.c (a:R2)(b:Addr)(c:Hp)(d:aO):Prop:=R1 250 #[.pointer a,.pointer (some b)] [.one .b] c d
def YY.c (a:R2)(b:Int)(c:Hp)(d:aO):Prop:=R1 251 #[.pointer a,.I b] [.one .b] c d
def YQ.c (a:R2)(b:Hp)(c:Int->Bool->Hp->Prop):Prop:=R1 252 #[.pointer a] [.I,.one .b] b c
def XG.c (a:R2)(b c:Int)(d:Hp)(e:Int->Int->Hp->Prop):Prop:=R1 253 #[.pointer a,.I b,.I c] [.I,.I] d e
def YU.c (a:R2)(b:Int)(c:Hp)(d:aO):Prop:=R1 254 #[.pointer a,.I b] [.one .b] c d
def XA.c (a:R2)(b c:Int)(d:Hp)(e:aN):Prop:=R1 255 #[.pointer a,.I b,.I c] [.I] d e
def X1.c (a:R2)(b c d:Int)(e:Hp)(f:aN):Prop:=R1 256 #[.pointer a,.I b,.I c,.I d] [.I] e f
def KE.c (a b c d:Int)(e:Hp)(f:Option Addr->Int->Hp->Prop):Prop:=R1 257 #[.I a,.agg #[.I b,.I c,.I d]] [.one .p,.I] e f
def Wb.c (a:Sl)(b:Int)(c:Fv)(d:Hp)(e:Int->Bool->Hp->Prop):Prop:=R1 258 #[.slice a.a a.len a.cap,.I b,.func (.func c.f) c.first c.captured] [.I,.one .b] d e
def YH.c (a b:Int)(c:R2)(d:Int)(e:Hp)(f:aN):Prop:=R1 259 #[.agg #[.I a,.I b,.pointer c],.I d] [.I] e f
def Wg.c (a:Sl)(b:Int)(c:Sl)(d:Hp)(e:Sl->Hp->Prop):Prop:=R1 260 #[.slice a.a a.len a.cap,.I b,.slice c.a c.len c.cap] [.one .s] d e
def Xf.c (a:Sl)(b:Hp)(c:Sl->Hp->Prop):Prop:=R1 261 #[.slice a.a a.len a.cap] [.one .s] b c
def Yr.c (a:R2)(b:Int)(c:Hp)(d:Int->Int->Hp->Prop):Prop:=R1 262 #[.pointer a,.I b] [.I,.I] c d
def Z1.c (a:Sl)(b:Fv)(c:Hp)(d:aP):Prop:=R1 263 #[.slice a.a a.len a.cap,.func (.func b.f) b.first b.captured] [] c d
def W3.c (a:R2)(b:Int)(c:Hp)(d:Bool->Int->Hp->Prop):Prop:=R1 265 #[.pointer a,.I b] [.one .b,.I] c d
def W4.c (a:R2)(b:Sl)(c:Hp)(d:Bool->Int->Hp->Prop):Prop:=R1 266 #[.pointer a,.slice b.a b.len b.cap] [.one .b,.I] c d
def X9.c (a:R2)(b c:Int)(d:Hp)(e:aP):Prop:=R1 267 #[.pointer a,.I b,.I c] [] d e
def Wh.c (a:Sl)(b:Fv)(c:Hp)(d:aN):Prop:=R1 268 #[.slice a.a a.len a.cap,.func (.func b.f) b.first b.captured] [.I] c d
def Wx.c (a:Sl)(b:Fv)(c:Hp)(d:aO):Prop:=R1 270 #[.slice a.a a.len a.cap,.func (.func b.f) b.first b.captured] [.one .b] c d
def Yw.c (a:Int)(b:Addr)(c:Hp)(d:aO):Prop:=R1 271 #[.I a,.pointer (some b)] [.one .b] c d
def Wp.c (a:Sl)(b:Int)(c:Hp)(d:aO):Prop:=R1 272 #[.slice a.a a.len a.cap,.I b] [.one .b] c d
def Zb.c (a:R2)(b c:Int)(d:Hp)(e:Sl->Int->Hp->Prop):Prop:=R1 273 #[.pointer a,.I b,.I c] [.one .s,.I] d e
def Y8.c (a:R2)(b c:Int)(d e:Bool)(f:Hp)(g:aP):Prop:=R1 274 #[.pointer a,.I b,.I c,.agg #[.bool d,.bool e]] [] f g
def Xq.c (a:R2)(b:Int)(c:Hp)(d:Int->Int->Bool->Hp->Prop):Prop:=R1 275 #[.pointer a,.I b] [.I,.I,.one .b] c d
def XI.c (a:R2)(b:Int)(c:Hp)(d:Option Addr->Hp->Prop):Prop:=R1 277 #[.pointer a,.I b] [.one .p] c d
def Zy.c (a:R2)(b:Int)(c:Hp)(d:aN):Prop:=R1 278 #[.pointer a,.I b] [.I] c d
def Ww.c (a:R2)(b:Hp)(c:Option Addr->Hp->Prop):Prop:=R1 279 #[.pointer a] [.one .p] b c
def WA.c (a:R2)(b:Hp)(c:Option Addr->Hp->Prop):Prop:=R1 280 #[.pointer a] [.one .p] b c
def XR.c (a:R2)(b:Int)(c:Hp)(d:aN):Prop:=R1 281 #[.pointer a,.I b] [.I] c d
def WY.c (a b c d:Int)(e:Hp)(f:aO):Prop:=R1 282 #[.agg #[.I a,.I b],.agg #[.I c,.I d]] [.one .b] e f
def Zo.c (a:R2)(b:Hp)(c:Int->Int->Hp->Prop):Prop:=R1 283 #[.pointer a] [.I,.I] b c
def XK.c (a:Sl)(b:Hp)(c:aN):Prop:=R1 284 #[.slice a.a a.len a.cap] [.I] b c
def Qi.c (a:Option Nat)(b:Hp)(c:Fv->Hp->Prop):Prop:=R1 285 #[.map a] [.one .fn] b c
def Y4.c (a:R2)(b c:Int)(d:Hp)(e:aN):Prop:=R1 286 #[.pointer a,.I b,.I c] [.I] d e
def Yd.c (a:R2)(b:Int)(c:Hp)(d:aN):Prop:=R1 287 #[.pointer a,.I b] [.I] c d
def Ku.c (a:Sl)(b:Int)(c:Hp)(d:aP):Prop:=R1 289 #[.slice a.a a.len a.cap,.I b] [] c d
def X2.c (a:R2)(b:Int)(c:Hp)(d:Int->Int->Hp->Prop):Prop:=R1 290 #[.pointer a,.I b] [.I,.I] c d
def Yv.c (a:R2)(b:Int)(c:Hp)(d:Bool->Int->Hp->Prop):Prop:=R1 292 #[.pointer a,.I b] [.one .b,.I] c d
def Zf.c (a:R2)(b c:Int)(d:Hp)(e:aP):Prop:=R1 293 #[.pointer a,.I b,.I c] [] d e
def WU.c (a:Sl)(b:Fv)(c:Hp)(d:aN):Prop:=R1 302 #[.slice a.a a.len a.cap,.func (.func b.f) b.first b.captured] [.I] c d
def WF.c (a:Sl)(b:Int)(c:Hp)(d:aN):Prop:=R1 303 #[.slice a.a a.len a.cap,.I b] [.I] c d
def X7.c (a:R2)(b:Int)(c:Hp)(d:Int->Int->Hp->Prop):Prop:=R1 304 #[.pointer a,.I b] [.I,.I] c d
def Zd.c (a:R2)(b:Int)(c:Sl)(d:Hp)(e:aP):Prop:=R1 305 #[.pointer a,.I b,.slice c.a c.len c.cap] [] d e
def Yn.c (a:R2)(b:Int)(c:Hp)(d:aN):Prop:=R1 306 #[.pointer a,.I b] [.I] c d
def Kf.c (a:Fv)(b:Addr)(c:Hp)(d:aP):Prop:=R1 307 #[.func (.func a.f) a.first a.captured,.pointer (some b)] [] c d
def Wf.c (a:Sl)(b:Fv)(c:Hp)(d:aO):Prop:=R1 308 #[.slice a.a a.len a.cap,.func (.func b.f) b.first b.captured] [.one .b] c d
def Yz.c (a b:Bool)(c:Hp)(d:aO):Prop:=R1 309 #[.agg #[.bool a,.bool b]] [.one .b] c d
def Wn.c (a:Sl)(b:Fv)(c:Hp)(d:aN):Prop:=R1 322 #[.slice a.a a.len a.cap,.func (.func b.f) b.first b.captured] [.I] c d
def ZW.c (a:Int)(b:Hp)(c:ByteArray->Hp->Prop):Prop:=R1 346 #[.agg #[.I a]] [.one .str] b c
def ZL.c (a:Int)(b:Hp)(c:ByteArray->Hp->Prop):Prop:=R1 347 #[.agg #[.I a]] [.one .str] b c
def ZT.c (a:Int)(b:Hp)(c:ByteArray->Hp->Prop):Prop:=R1 348 #[.agg #[.I a]] [.one .str] b c
def ZN.c (a:Hp)(b:ByteArray->Hp->Prop):Prop:=R1 349 #[.agg #[]] [.one .str] a b
def Y1.c (a b:Int)(c:Hp)(d:ByteArray->Hp->Prop):Prop:=R1 350 #[.agg #[.I a,.I b]] [.one .str] c d
def ZS.c (a:Hp)(b:ByteArray->Hp->Prop):Prop:=R1 351 #[.agg #[]] [.one .str] a b
def Zk.c (a b:Int)(c:Hp)(d:ByteArray->Hp->Prop):Prop:=R1 352 #[.agg #[.I a,.I b]] [.one .str] c d
def ZV.c (a b:Int)(c:Hp)(d:ByteArray->Hp->Prop):Prop:=R1 353 #[.agg #[.I a,.I b]] [.one .str] c d
def Z7.c (a b:Int)(c:Hp)(d:ByteArray->Hp->Prop):Prop:=R1 354 #[.agg #[.I a,.I b]] [.one .str] c d
def ZY.c (a:Hp)(b:ByteArray->Hp->Prop):Prop:=R1 355 #[.agg #[]] [.one .str] a b
def ZU.c (a b:Int)(c:Hp)(d:ByteArray->Hp->Prop):Prop:=R1 356 #[.agg #[.I a,.I b]] [.one .str] c d
set_option maxRecDepth 100000
def Yg.h:Hn:=.q .o1 (.q (.cQ (.seq [.op,.op,.op,.cW true 5 (RI.ops 5),.op])) .l)
abbrev _root_.aQ(a:Addr)(n:Nat)(h:Hp)(K:Int->Prop):Prop:=gE .i64 (a.add n) h K
abbrev _root_.aR(a:Addr)(n:Nat)(v:Value)(h:Hp)(K:Hp->Prop):Prop:=dU (a.add n) v h K
abbrev _root_.aX(a:Addr)(n:Nat)(h:Hp)(K:Sl->Prop):Prop:=ju (a.add n) h K
abbrev _root_.aY(a:Addr)(n:Nat)(h:Hp)(K:Option Addr->Prop):Prop:=fW (a.add n) h K
abbrev _root_.aZ(a:Addr)(n:Nat)(h:Hp)(K:Bool->Prop):Prop:=lB (a.add n) h K
abbrev _root_.bA(a:Addr)(n:Nat)(h:Hp)(K:Value->Prop):Prop:=yV (a.add n) h K
abbrev _root_.bB(a:Addr)(n:Nat)(h:Hp)(K:Option Nat->Prop):Prop:=ly (a.add n) h K
abbrev _root_.bC(a:Addr)(n:Nat)(h:Hp)(K:ByteArray->Prop):Prop:=we (a.add n) h K
abbrev _root_.bD(p:Option Addr)(n:Nat)(h:Hp)(K:Int->Prop):Prop:=bV p λa=>gE .i64 (a.add n) h K
abbrev _root_.bE(p:Option Addr)(n:Nat)(h:Hp)(K:Sl->Prop):Prop:=bV p λa=>ju (a.add n) h K
abbrev _root_.bF(p:Option Addr)(n:Nat)(h:Hp)(K:Option Addr->Prop):Prop:=bV p λa=>fW (a.add n) h K
abbrev _root_.bG(p:Option Addr)(n:Nat)(h:Hp)(K:Bool->Prop):Prop:=bV p λa=>lB (a.add n) h K
abbrev _root_.bH(p:Option Addr)(n:Nat)(h:Hp)(K:Value->Prop):Prop:=bV p λa=>yV (a.add n) h K
abbrev _root_.bI(p:Option Addr)(n:Nat)(h:Hp)(K:Option Nat->Prop):Prop:=bV p λa=>ly (a.add n) h K
abbrev _root_.bJ(p:Option Addr)(n:Nat)(h:Hp)(K:ByteArray->Prop):Prop:=bV p λa=>we (a.add n) h K
abbrev _root_.aS(S:Hp->Prop)(a:Addr)(n:Nat)(K:Int->Prop):Prop:=gG S bN (a.add n) K
abbrev _root_.aT(S:Hp->Prop)(a:Addr)(n:Nat)(K:Sl->Prop):Prop:=gG S .s (a.add n) K
abbrev _root_.aU(S:Hp->Prop)(a:Addr)(n:Nat)(K:Option Addr->Prop):Prop:=gG S .p (a.add n) K
abbrev _root_.bL(e:Int)(K:Int->Prop):Prop:=Ar .i64 e K
abbrev _root_.bM(a:Addr)(h:Hp)(K:Int->Prop):Prop:=gE .i64 a h K
abbrev _root_.aV(c:Array Value)(t:Nat)(h:Hp)(K:Addr->Hp->Prop):Prop:=Nw (.cells c t (0,0)) h K
def Yg.v (a:R2)(b:Hp)(c:aO):Prop:=bW (λd e=>c d e) λf=>If (!a.isNone) (bD a 0 b λh=>f (decide (h>0)) b) (f false b)
theorem Yg.o {a b c}(d:Yg.v a b c):Yg.c a b c:=Wa Tryz.func183 (x:=Yg.h) (R0 d)
def QX.h:Hn:=.q .o2 (.q (.q (.cQ (.seq [.op,.op,.op,.cW false 2 [.op,.op]])) .aJ) (.q .o4 (.q (.q .o1 (.k (.loop [(5,.I)] (.q (.q .o3 (.c .l .l)) (.q (.k (.o 11)) .o3))))) (.q .o3 .l))))
def QX.v (a:Int)(b:Hp)(c:Option Addr->Int->Hp->Prop):Prop:=bW (λd e=>If d (c none 1 e) (Nw (.cells #[.I a,.slice none 0 0] 269 (0,0)) e λf g=>XW [bN] (λh=>h 1 g) λi (j:Int) k=>If (j<=a) (bV (some f) λl=>ju (l.add 1) k λm=>Nw (.map #[] 0) k λn o=>Nw (.cells #[.map (some n.block)] 72 (0,0)) o λp q=>App m 1 8 72 [.map none] ⟨some p,1,1⟩ q λr s=>bV (some f) λt=>dU (t.add 1) (.slice r.a r.len r.cap) s λu=>Ar .i64 (j*2) λv=>i v u) (c (some f) 0 k))) λw=>If (a<1) (w true b) (w (decide (a>1024)) b)
theorem QX.o {a b c}(d:QX.v a b c):QX.c a b c:=Wa Tryz.func197 (x:=QX.h) (R0 d)
def XZ.h:Hn:=.q .o1 (.q (.q .o5 (.q .o2 .aJ)) (.q (.q .o2 (.k (.loop [(8,.I)] (.q (.q .o5 (.c .l .l)) (.q (.k (.q .o3 .aK)) .o3))))) (.q .o4 .aM)))
def XZ.v (a:R2)(b c:Int)(d:Hp)(e:aN):Prop:=YX.c a b c d λf g=>If (f != 0) (e f g) (XW [bN] (λh=>h b g) λi (j:Int) k=>bL (b+c) λl=>If (j<l) (Ys.c a j k λm n=>If m (e 9 n) (bL (j+1) λo=>i o n)) (X9.c a b c k λp=>e 0 p))
theorem XZ.o {a b c d e}(f:XZ.v a b c d e):XZ.c a b c d e:=Wa Tryz.func221 (x:=XZ.h) (R0 f)
def YX.h:Hn:=.q .o1 (.q (.k (.q .o4 (.c .aM (.q (.cQ (.seq [.op,.op,.op,.cW false 2 [.op,.op],.op,.cW false 6 (RI.ops 6),.op,.cW false 8 (RI.ops 8),.op])) .aK)))) .aM)
def YX.v (a:R2)(b c:Int)(d:Hp)(e:aN):Prop:=Yg.c a d λf g=>If (!f) (e 5 g) (bW (λh i=>bW (λj k=>bW (λl m=>If l (e 1 m) (e 0 m)) λn=>If j (n true k) (bD a 0 k λp=>bL (p-b) λq=>n (decide (c>q)) k)) λr=>If h (r true i) (bD a 0 i λt=>r (decide (b>t)) i)) λu=>If (b<0) (u true g) (u (decide (c<1)) g))
theorem YX.o {a b c d e}(f:YX.v a b c d e):YX.c a b c d e:=Wa Tryz.func236 (x:=YX.h) (R0 f)
def Ys.h:Hn:=.q .o1 (.q (.q (.cQ (.seq [.op,.op,.op,.op,.cW false 2 [.op,.op],.op,.cW false 6 (RI.ops 6)])) .aK) (.q .fP .aL))
def Ys.v (a:R2)(b:Int)(c:Hp)(d:aO):Prop:=Yg.c a c λe f=>bW (λg h=>bW (λi j=>If i (d false j) (Xq.c a b j λk l m n=>d m n)) λo=>If g (o true h) (bD a 0 h λq=>o (decide (b≥q)) h)) λr=>If (!e) (r true f) (r (decide (b<0)) f)
theorem Ys.o {a b c d}(e:Ys.v a b c d):Ys.c a b c d:=Wa Tryz.func237 (x:=Ys.h) (R0 e)
def Zt.h:Hn:=.q .o2 (.k (.loop [(6,.I)] (.q (.q .o5 (.c .l .l)) (.k (.q .fP (.q .o9 (.q .o5 (.q .o6 (.q (.q .o4 (.q .o3 (.c .o6 .l))) .o2)))))))))
def Zt.v (a:R2)(b c:Int)(d:Hp)(e:aP):Prop:=XW [bN] (λf=>f b d) λg (h:Int) i=>bL (b+c) λj=>If (h<j) (Xq.c a h i λk l m n=>bE a 1 n λp=>Ix p.a p.len k 1 λq=>ly q n λr=>lI .i64 .b r l n λs=>Nn k<|bL ((1:Int)*2^(min k.toNat IntKind.i64.bits)) λt=>bL (l+t) λu=>bL (h-l) λv=>X9.c a l v s λw=>bL (b+c) λx=>If (u>x) (bL (u-x) λy=>X9.c a x y w λz=>g u z) (g u w)) (e i)
theorem Zt.o {a b c d e}(f:Zt.v a b c d e):Zt.c a b c d e:=Wa Tryz.func238 (x:=Zt.h) (R0 f)
def XG.h:Hn:=.q .o2 (.q (.k (.q .o4 (.c .aL (.q (.cQ (.seq [.op,.op,.op,.cW false 2 [.op,.op],.op,.cW false 2 [.op,.op],.op,.cW false 2 [.op,.op],.op,.cW false 5 (RI.ops 5),.op])) .aJ)))) (.q (.q .o6 (.k (.loop [(42,.I)] (.q .o1 (.q (.c .l .l) (.q (.k (.q .o5 (.q (.cQ (.seq [.op,.op,.op,.op,.op,.op,.op,.cW true 3 (RI.ops 3)])) (.c (.q .o5 (.q .o4 (.q .o3 .l))) .l)))) .o2)))))) .aL))
def XG.v (a:R2)(b c:Int)(d:Hp)(e:Int->Int->Hp->Prop):Prop:=Yg.c a d λf g=>If (!f) (e 0 5 g) (bW (λh i=>bW (λj k=>bW (λl m=>bW (λn o=>If n (e 0 1 o) (bE a 1 o λq=>XW [bN] (λr=>r 0 o) λs (t:Int) u=>If (t<((q.len:Nat):Int)) (Ix q.a q.len t 1 λv=>ly v u λw=>Nn t<|bL ((1:Int)*2^(min t.toNat IntKind.i64.bits)) λx=>bW (λy z=>If y (Qi.c w z λaa ab=>Vs.c aa ab λac ad=>XK.c ac ad λae af=>Zt.c a ae b af λag=>e ae 0 ag) (bL (t+1) λah=>s ah z)) λai=>If (x≥(if c>b then c else b)) (qp .i64 .b w u λaj=>ai (decide (aj>0)) u) (ai false u)) (e 0 6 u))) λak=>If l (ak true m) (bL (c-1) λal=>ak ((bits .and .i64 c al) != 0) m)) λam=>If j (am true k) (am (decide (c>1024)) k)) λan=>If h (an true i) (an (decide (c<1)) i)) λao=>If (b<1) (ao true g) (ao (decide (b>1024)) g))
theorem XG.o {a b c d e}(f:XG.v a b c d e):XG.c a b c d e:=Wa Tryz.func253 (x:=XG.h) (R0 f)
def X9.h:Hn:=.k (.loop [(1,.I),(2,.I)] (.q (.q .o2 (.c .l .l)) (.k (.q .o1 (.q (.k (.loop [(6,.I)] (.q (.q (.cQ (.seq [.op,.op,.op,.op,.op,.op,.op,.op,.op,.op,.cW true 5 (RI.ops 5)])) (.c .l .l)) (.k .o3)))) (.q .o4 (.oq 10)))))))
def X9.v (a:R2)(b c:Int)(d:Hp)(e:aP):Prop:=XW [bN,bN] (λf=>f b c d) λg (h:Int) (i:Int) j=>If (i>0) (XW [bN] (λk=>k 0 j) λl (m:Int) n=>bL (m+1) λo=>Nn o <| bL (m+1) λp=>Nn p<|bL ((h.fdiv (2^(min o.toNat IntKind.i64.bits)))*2^(min p.toNat IntKind.i64.bits)) λq=>bW (λr s=>If r (bL (m+1) λt=>l t s) (Zf.c a m h s λu=>Nn m<|bL ((1:Int)*2^(min m.toNat IntKind.i64.bits)) λv=>bL (h+v) λw=>Nn m<|bL ((1:Int)*2^(min m.toNat IntKind.i64.bits)) λx=>bL (i-x) λy=>g w y u)) λz=>If (q==h) (bL (m+1) λaa=>Nn aa<|bL ((1:Int)*2^(min aa.toNat IntKind.i64.bits)) λab=>z (decide (ab<=i)) n) (z false n)) (e j)
theorem X9.o {a b c d e}(f:X9.v a b c d e):X9.c a b c d e:=Wa Tryz.func267 (x:=X9.h) (R0 f)
def Xq.h:Hn:=.q .o3 (.q (.q .o6 (.k (.loop [(15,.I)] (.q .o1 (.q (.c .l .l) (.q (.k (.q .o5 (.q .o6 (.q .o3 (.c (.q .o5 .l) .l))))) .o2)))))) (.q .o3 .l))
def Xq.v (a:R2)(b:Int)(c:Hp)(d:Int->Int->Bool->Hp->Prop):Prop:=bE a 1 c λf=>XW [bN] (λg=>g 0 c) λh (i:Int) j=>If (i<((f.len:Nat):Int)) (Ix f.a f.len i 1 λk=>ly k j λl=>Nn i <| Nn i<|bL ((b.fdiv (2^(min i.toNat IntKind.i64.bits)))*2^(min i.toNat IntKind.i64.bits)) λm=>Lk .i64 .b l m j λn=>If (n.getD false) (d i m true j) (bL (i+1) λo=>h o j)) (d 0 0 false j)
theorem Xq.o {a b c d}(e:Xq.v a b c d):Xq.c a b c d:=Wa Tryz.func275 (x:=Xq.h) (R0 e)
def Zf.h:Hn:=.q (.k (.loop [(1,.I),(2,.I)] (.q (.q (.cQ (.quiet [.op,.op,.op,.op,.op,.op,.op,.op,.op,.cW true 12 (RI.ops 12)])) (.c .l .l)) (.k (.q (.cQ (.tail 11 (RI.ops 11) [.op])) (.q .o8 .o3)))))) .o9
def Zf.v (a:R2)(b c:Int)(d:Hp)(e:aP):Prop:=XW [bN,bN] (λf=>f b c d) λg (h:Int) (i:Int) j=>bL (h+1) λk=>bE a 1 j λm=>bW (λn o=>If n (bE a 1 o λq=>Ix q.a q.len h 1 λr=>ly r o λs=>Nn h<|bL ((1:Int)*2^(min h.toNat IntKind.i64.bits)) λt=>lI .i64 .b s (bits .xor .i64 i t) o λu=>bL (h+1) λv=>Nn v <| bL (h+1) λw=>Nn w<|bL ((i.fdiv (2^(min v.toNat IntKind.i64.bits)))*2^(min w.toNat IntKind.i64.bits)) λx=>bL (h+1) λy=>g y x u) (bE a 1 o λaa=>Ix aa.a aa.len h 1 λab=>ly ab o λac=>kG .i64 .b ac i true o λad=>e ad)) λae=>If (k<((m.len:Nat):Int)) (bE a 1 j λag=>Ix ag.a ag.len h 1 λah=>ly ah j λai=>Nn h<|bL ((1:Int)*2^(min h.toNat IntKind.i64.bits)) λaj=>Lk .i64 .b ai (bits .xor .i64 i aj) j λak=>ae (ak.getD false) j) (ae false j)
theorem Zf.o {a b c d e}(f:Zf.v a b c d e):Zf.c a b c d e:=Wa Tryz.func293 (x:=Zf.h) (R0 f)
end Go.Proofs
namespace Go.Vc
open Go
variable {ro:Option Nat}{m0:Nat}
def Fw (ro:Option Nat):Fence:={Fence.wide with round:=ro}
theorem I2 {P:Program}{f:Nat}{args:Array Value}{w:World}{R:Ending->World->Prop}(h:Calls P f args w R):CallsIn (Fw ro) m0 P f args w R:=by
 cases ro with
 | none=>exact callsIn_wide.2 h
 | some l=>exact CallsIn.inRound l (callsIn_wide.2 h)
theorem Jy {P:Program}{ρ:Operand->Value}{o:Oper}{w:World}{K:Value->Hp->Prop}(h:QV P (execOp ρ o) w K):∀c,o.op≠.defer c:=by
 intro c hc;have key:∀(s:Sem Deferred) r,((do pure (Next.defer (←s)):Sem Next).run P w=.ok r w->∃d,r=.defer d)/\(∀w',(do pure (Next.defer (←s)):Sem Next).run P w=.ok r w'->∃d,r=.defer d):=by
  intro s r;have:∀w',(do pure (Next.defer (←s)):Sem Next).run P w=.ok r w'->∃d,r=.defer d:=by
   intro w' hr;rw[Sem.run_bind]at hr;cases hs:s.run P w with
   | ok d w2=>
    rw[hs]at hr;simp at hr;exact⟨d,hr.1.symm⟩
   | halt x w2=>
    rw[hs]at hr;simp at hr
  exact⟨this w,this⟩
 have a:execOp ρ o=(do pure (Next.defer (←resolve ρ c o.type)):Sem Next):=by unfold execOp;rw[hc]
 rw[a]at h;rcases h with⟨v,w',hr,_⟩|⟨w',hr,_⟩|⟨f,args,rs,R,hr,_⟩
 ·obtain⟨d,hd⟩:=(key _ _).2 w' hr;cases hd
 ·obtain⟨d,hd⟩:=(key _ _).2 w' hr;cases hd
 ·obtain⟨d,hd⟩:=(key _ _).2 w hr;cases hd
theorem QV.uponIn {P:Program}{o:Oper}{a:Act}{w:World}{K:Value->Hp->Prop}{next:Act->World->Prop}{Q:Exit->Act->World->Prop}
 (h:QV P (execOp a.eval o) w K) (hn:∀v w',Xd w w'->K v w'.heap->next (a.put o.dst v) w'):o.wpIn (Fw ro) m0 P a w next Q:=by
 refine⟨λ_ _=>trivial,?_⟩;rw[Oper.semAt_eq _ _ _ (Jy h)];rcases h with⟨v,w',hr,b,hK⟩|⟨w',hr,b,hK⟩|⟨f,args,rs,R,hr,hc,hK⟩
 ·rw[hr];exact hn _ _ b hK
 ·rw[hr];exact hn _ _ b hK
 ·rw[hr];refine⟨λh=>by simp[Fw,Fence.wide]at h,I2 ((hc w rfl).mono λe w' ⟨b,vs,g,d⟩=>?_)⟩;subst g;exact hn _ _ b (hK _ _ d)
theorem Fk {P:Program}{N:Nat}{ops:Array Oper}{Q:Exit->Act->World->Prop}{tail:List Oper}{w:World}:∀{os:List Oper} {ρ:Env} {a:Act},Uu N ops os ρ=true->Fits N ρ a →
 (∀a',Fits N (ρ.dX (os.filterMap (·.dst))) a'->wpListIn (Fw ro) m0 P ops Q tail a' w)->wpListIn (Fw ro) m0 P ops Q (os++tail) a w
 | [],ρ,a,_,hf,h=>h a (hf.weaken (xh _ _))
 | o::os,ρ,a,hs,hf,h=>by
  simp only[Uu,zF]at hs;obtain⟨h1,h2,h3⟩:=hs;have m:=KQ hf h1;simp only[lu,wpListIn,m];refine⟨λ_ _=>trivial,?_⟩;refine Fk h3 (hf.put h2 _) λa' j=>h a' (j.weaken λi v b=>?_);simp only[Env.dX]at b ⊢;cases hc:(List.filterMap (·.dst) (o::os)).contains i
  ·rw[hc]at b;simp only[cond_false]at b;have e:(List.filterMap (·.dst) os).contains i=false:=by
    cases hd:o.dst<;>simp_all
   have g:∀d,o.dst=some d->i≠d:=by
    intro d hd;simp_all
   rw[e];simp only[cond_false];cases hd:o.dst with
   | none=>exact b
   | some d=>
    have:=g d hd;simp only[Env.im,Env.put];have:Nat.beq i d=false:=by
     cases hb:Nat.beq i d
     ·rfl
     ·exact absurd (jQ hb) this
    rw[this];exact b
  ·rw[hc]at b;cases b
theorem KX {P:Program}{N:Nat}{ops:Array Oper}{Q:Exit->Act->World->Prop}:∀(n:Nat) {hs:List RI} {os:List Oper} {tail:List Oper} {ρ:Env} {a:Act} {w:World} {K:Env->Hp->Prop},
 eI P N ops n hs os ρ w.heap K->Fits N ρ a->(∀ρ' a' w',Fits N ρ' a'->Xd w w'->VP os ρ ρ'->K ρ' w'.heap->wpListIn (Fw ro) m0 P ops Q tail a' w')->wpListIn (Fw ro) m0 P ops Q (os++tail) a w
 | 0,_,_,_,_,_,_,_,h,_,_=>(by simp only[eI]at h)
 | n+1,[],[],tail,ρ,a,w,K,h,hf,hK=>by
  simp only[eI]at h;exact hK ρ a w hf (.refl _) (λ_ _ _ h=>h) h
 | n+1,[],o::os,tail,ρ,a,w,K,h,hf,hK=>(by simp only[eI]at h)
 | n+1,.op::hs,[],tail,ρ,a,w,K,h,hf,hK=>(by simp only[eI]at h)
 | n+1,.op::hs,o::os,tail,ρ,a,w,K,h,hf,hK=>by
  simp only[eI]at h;rw[Wu]at h;obtain⟨hc,h⟩:=h;simp only[zF]at hc;have L:=Zn hf hc.1;simp only[lu,wpListIn,L,zS];refine QV.uponIn (UK hf.ev o h) λv w' C s=>?_;exact KX n s (hf.put hc.2 v) λρ' a' A g j E p=>hK ρ' a' A g (C.trans j) E.cons p
 | n+1,.it ki c::hs,[],tail,ρ,a,w,K,h,hf,hK=>(by simp only[eI]at h)
 | n+1,.it ki c::hs,o::os,tail,ρ,a,w,K,h,hf,hK=>by
  simp only[eI]at h;rw[Wu]at h;obtain⟨hc,h⟩:=h;simp only[zF]at hc;have L:=Zn hf hc.1;simp only[lu,wpListIn,L,zS];refine QV.uponIn (IT hf.ev o h) λv w' C s=>?_;exact KX n s (hf.put hc.2 v) λρ' a' A g j E p=>hK ρ' a' A g (C.trans j) E.cons p
 | n+1,.cW and m inner::hs,os,tail,ρ,a,w,K,h,hf,hK=>by
  simp only[eI]at h;split at h
  case h_2=>exact h.elim
  rename_i pk rest hdrop;split at h
  case h_2=>exact h.elim
  rename_i c x y d hop hd;split at h
  case h_2=>exact h.elim
  rename_i b hb;rw[Wu]at h;obtain⟨hc,J,hJ,h⟩:=h;simp only[zF]at hc;obtain⟨S,M,W,hcc,F⟩:=hc;have hdN':qt N pk.dst=true:=by rw[hd];exact S
  have hos:os++tail=os.take m++(pk::rest++tail):=by
   rw[←hdrop,←jL,oc]
  rw[hos];have u:∀(r b':Bool) (z:Operand) a' w',b=b'->(bif b' then x else y)=z->Fits N (ρ.dX ((os.take m).filterMap (·.dst))) a'->Xd w w'->J r w'.heap->Region.wanted pk (yielded ops a'.tmps)=true →
   a'.eval (.tmp c)=.bool b'->a'.eval z=.bool r->wpListIn (Fw ro) m0 P ops Q (pk::rest++tail) a' w':=by
   intro r b' z a' w' e ez g C G L D hez;simp only[lu,wpListIn,L,zS];refine QV.uponIn (K:=λv h'=>v=.bool r/\h'=w'.heap) (Ee hop D (by rw[ez];exact hez) ⟨rfl,rfl⟩) λv A j s=>?_;obtain⟨rfl,hh⟩:=s;have X:=g.put (d:=some d) S (.bool r);rw[hd];have H:=hJ _ _ G;rw[←hh]at H;exact KX n H X λρ' Y w3 V R E p=>hK ρ' Y w3 V ((C.trans j).trans R) (VP.cW hd hdrop E) p
  have run:∀(b':Bool) (z:Operand),b=b'->(bif b' then x else y)=z →
   eI P N ops n inner (os.take m) (ρ.put c (.bool b')) w.heap (λρ' h'=>fR (GE ops pk ρ'&&sk ρ' c b') (Up ρ' z λr=>J r h'))->wpListIn (Fw ro) m0 P ops Q (os.take m++(pk::rest++tail)) a w:=by
   intro b' z e ez hseg;refine KX n hseg (hf.lit hb e) λρ' a' w' g C E s=>?_;rw[Wu]at s;simp only[zF]at s;obtain⟨⟨hg,Z⟩,s⟩:=s;obtain⟨r,hr,G⟩:=Kz s;exact u r b' z a' w' e ez (g.u7 hb e E) C G (Zn g hg) (g.ev _ _ (UO Z)) (g.ev _ _ hr)
  have B:∀(b':Bool),b=b'->b' = !and->J (!and) w.heap->wpListIn (Fw ro) m0 P ops Q (os.take m++(pk::rest++tail)) a w:=by
   intro b' e eb G;subst eb;refine Fk F (hf.lit hb e) λa' g=>?_;have U:Fits N (ρ.dX ((os.take m).filterMap (·.dst))) a':=g.u7 (ρ':=(ρ.put c (.bool (!and))).dX ((os.take m).filterMap (·.dst))) hb e (λi hi v hv=>by simp only[Env.dX,hi];exact hv);have D:=g.ev (.tmp c) _ (UO hcc);refine u (!and) (!and) (bif (!and)then x else y) a' w e rfl U (.refl _) G (Zn U W) D ?_;refine AE ?_ _ (λv=>rfl);cases and<;>exact M
  cases and
  ·simp only[cond_false]at h;cases b
   ·exact run false y rfl rfl (h.f rfl)
   ·exact B true rfl rfl (h.t rfl)
  ·simp only[cond_true]at h;cases b
   ·exact B false rfl rfl (h.f rfl)
   ·exact run true x rfl rfl (h.t rfl)
end Go.Vc
namespace Go.Vc
open Go
variable {ro:Option Nat}{m0:Nat}{P:Program}
def Act.wd (a:Act)(ds:List Deferred):Act:={a with defers:=ds}
theorem sT (a:Act)(ds:List Deferred)(d:Option Nat)(v:Value):(Act.wd a ds).put d v=Act.wd (a.put d v) ds:=by cases d<;>rfl
theorem B4 (a:Act)(d e:List Deferred):Act.wd (Act.wd a d) e=Act.wd a e:=rfl
theorem VU {a:Act}{ds:List Deferred}(h:a.defers=ds):Act.wd a ds=a:=by subst h;rfl
def jF (P:Program)(o:Oper):Bool:=match o.op with
 | .call c=>match c.callee with
  | .value (.func f)=>V4 P f
  | _=>false
 | .move _ | .assign _ | .alloc _ | .box _ _ | .build _ _ | .buildSlice _ _ _ | .load _ _ | .store _ _ _ | .binOp _ _ _ _ _ | .unOp _ _ _ | .fieldAddr _ _ _ | .indexAddr _ _ _ | .lookup _ _ _ _ | .mapUpdate _ _ _ _ | .extract _ _ | .nilCheck _ | .pick _ _ _=>true
 | _=>false
theorem Jp {s:Sem Value}{w w':World}{r:Next}(h:(do pure (Next.value (←s)):Sem Next).run P w=.ok r w'):∃v,r=.value v:=by
 rw[Sem.run_bind]at h;cases hs:s.run P w with
 | ok d w2=>rw[hs]at h;simp at h;exact⟨d,h.1.symm⟩
 | halt x w2=>rw[hs]at h;simp at h
theorem O2 {s:Sem Unit}{w w':World}{r:Next}(h:(do s;pure Next.skip:Sem Next).run P w=.ok r w'):r=.skip:=by
 rw[Sem.run_bind]at h;cases hs:s.run P w with
 | ok d w2=>rw[hs]at h;simp at h;exact h.1.symm
 | halt x w2=>rw[hs]at h;simp at h
def Jj (r:Next):Prop:=(∃v,r=.value v)\/r=.skip\/∃f args,r=.enter f args
theorem Ab {α:Type}{s:Sem α}{f:α->Sem Next}{w w':World}{r:Next}(h:(s >>= f).run P w=.ok r w'):∃x w2,(f x).run P w2=.ok r w':=by
 rw[Sem.run_bind]at h;cases hs:s.run P w with
 | ok d w2=>rw[hs]at h;exact⟨d,w2,h⟩
 | halt x w2=>rw[hs]at h;simp at h
theorem GL {x r:Next}{w w':World}(h:(pure x:Sem Next).run P w=.ok r w'):r=x:=by rw[Sem.run_pure]at h;cases h;rfl
theorem yZ {r:Next}{w w':World}(h:(runtimePanic .nilDeref:Sem Next).run P w=.ok r w'):False:=by simp[runtimePanic,goPanic,Sem.run,go_sem]at h
theorem SE {a:Act}{o:Oper}{w w':World}{r:Next}(hk:jF P o=true)(h:(execOp a.eval o).run P w=.ok r w'):Jj r:=by
 unfold jF at hk;unfold execOp at h;cases ho:o.op<;>rw[ho]at hk h<;>simp only at hk h<;>first
  | exact .inl (Jp h)
  | exact .inr (.inl (O2 h))
  | cases hk
  | skip
 case move x=>rw[Sem.run_pure]at h;cases h;exact .inl ⟨_,rfl⟩
 case assign x=>rw[Sem.run_pure]at h;cases h;exact .inl ⟨_,rfl⟩
 case pick c x y=>
  rw[Sem.run_bind]at h;cases hs:(asBool (a.eval c)).run P w with
  | ok d e=>rw[hs]at h;simp at h;exact .inl ⟨_,h.1.symm⟩
  | halt x e=>rw[hs]at h;simp at h
 case call c=>
  obtain⟨callee,args,b⟩:=c;simp only at hk h;split at hk
  ·rename_i f;have i:=Vu hk (args.map a.eval) w;have g:(do let d ←resolve a.eval {callee:=.value (.func f),args:=args,argTypes:=b} o.type;invoke d.target d.args:Sem Next).run P w=(callFunc f (args.map a.eval)).run P w:=by
    simp[resolve,Act.eval,Deferred.ofValue,invoke]
   rw[g,i]at h;cases h;exact .inr (.inr ⟨_,_,rfl⟩)
  ·cases hk
 case nilCheck x=>
  split at h
  ·exact(yZ h).elim
  ·exact(yZ h).elim
  ·exact(yZ h).elim
  ·split at h
   ·exact(yZ h).elim
   ·obtain⟨y,e,h⟩:=Ab h;obtain⟨z,m,h⟩:=Ab h;split at h
    ·obtain⟨y,j,h⟩:=Ab h;exact .inl ⟨_,GL h⟩
    ·exact .inl ⟨_,GL h⟩
   ·exact .inl ⟨_,GL h⟩
  ·exact .inl ⟨_,GL h⟩
theorem FH {o:Oper}{a:Act}{w:World}{ds:List Deferred}{next next':Act->World->Prop}{Q Q':Exit->Act->World->Prop}(hk:jF P o=true)(h:o.wp P (Act.wd a []) w next Q')
 (hn:∀a' w',next a' w'->a'.defers=[]->next' (Act.wd a' ds) w') (hp:∀c a w,¬Q' (.panic c) a w) (ho:∀a w,¬Q' .outgrown a w):o.wpIn (Fw ro) m0 P (Act.wd a ds) w next' Q:=by
 have g:∀c,o.op≠.defer c:=λc j=>by unfold jF at hk;rw[j]at hk;cases hk
 refine⟨λ_ _=>trivial,?_⟩;rw[Oper.semAt_eq _ _ _ g];unfold Oper.wp at h;have m:(execOp (Act.wd a []).eval o)=execOp (Act.wd a ds).eval o:=rfl;rw[m]at h;have hd:∀v,((Act.wd a []).put o.dst v).defers=[]:=λv=>by rw[sT];rfl
 have i:∀v,Act.wd ((Act.wd a []).put o.dst v) ds=(Act.wd a ds).put o.dst v:=λv=>by rw[sT,sT,B4]
 cases hr:(execOp (Act.wd a ds).eval o).run P w with
 | ok r w'=>
  rw[hr]at h;rcases SE hk hr with⟨v,rfl⟩|rfl|⟨f,args,rfl⟩
  ·rw[Oper.uponIn_value,←i];exact hn _ _ h (hd v)
  ·rw[Oper.uponIn_skip,←i];exact hn _ _ h (hd _)
  ·refine⟨λh=>by simp[Fw,Fence.wide]at h,I2 (Calls.mono h λe d b=>?_)⟩;cases e with
   | returned v=>
    show next' ((Act.wd a ds).put o.dst v) d;rw[←i];exact hn _ _ b (hd v)
   | panicked chain=>exact(hp _ _ _ b).elim
   | outgrown=>obtain⟨p,w0,b⟩:=b;exact(ho _ _ b).elim
 | halt x w'=>
  rw[hr]at h;cases x<;>first
   | exact(hp _ _ _ h).elim
   | exact h.elim
theorem I8 {ops:Array Oper}{i:Nat}{a:Act}{w:World}{ds:List Deferred}{next next':Act->World->Prop}{Q Q':Exit->Act->World->Prop}(hk:∀o∈ops,jF P o=true)(h:wpOp P ops Q' i next (Act.wd a []) w)
 (hn:∀a' w',next (Act.wd a' []) w'->next' (Act.wd a' ds) w') (hp:∀c a w,¬Q' (.panic c) a w) (ho:∀a w,¬Q' .outgrown a w):wpOpIn (Fw ro) m0 P ops Q i next' (Act.wd a ds) w:=by
 unfold wpOp at h;unfold wpOpIn;cases hi:ops[i]? with
 | none=>rw[hi]at h;exact hn _ _ h
 | some o=>
  rw[hi]at h;simp only at h ⊢;have d:yielded ops (Act.wd a []).tmps=yielded ops (Act.wd a ds).tmps:=rfl;rw[d]at h;split
  ·rename_i hw;rw[zC hw]at h;rcases h with h|⟨_,a0,w0,hq⟩
   ·exact FH (hk o (yr hi)) h (λa' w' b hd=>hn a' w' (by rw[VU hd];exact b)) hp ho
   ·exact(ho _ _ hq).elim
  ·rename_i hw;rw[zB hw,sT]at h;refine⟨λ_ _=>trivial,?_⟩;rw[sT];exact hn _ _ h
theorem Ba {ops:Array Oper}{ds:List Deferred}{Q Q':Exit->Act->World->Prop}(hk:∀o∈ops,jF P o=true)(hp:∀c a w,¬Q' (.panic c) a w)(ho:∀a w,¬Q' .outgrown a w)(hN:∀a w,Q' .normal (Act.wd a []) w->Q .normal (Act.wd a ds) w) :
 ∀(m:Nat) (listed:Array Bool) (a:Act) (w:World),wpAny P .any ops Q' m listed (Act.wd a []) w->wpAnyIn (Fw ro) m0 P .any ops Q m listed (Act.wd a ds) w
 | 0,listed,a,w,h=>⟨h.1,hN _ _ h.2⟩
 | m+1,listed,a,w,h=>⟨λe=>hN _ _ (h.1 e),λi hi=>I8 hk (h.2 i hi) (λa' w' h'=>Ba hk hp ho hN m _ a' w' h') hp ho⟩
theorem Cq {ops:Array Oper}{ds:List Deferred}{Q Q':Exit->Act->World->Prop}(hp:∀c a w,¬Q' (.panic c) a w)(ho:∀a w,¬Q' .outgrown a w)(hN:∀a w,Q' .normal (Act.wd a []) w->Q .normal (Act.wd a ds) w) :
 ∀(l:List Oper) (a:Act) (w:World),(∀o∈l,jF P o=true)->wpList P ops Q' l (Act.wd a []) w->wpListIn (Fw ro) m0 P ops Q l (Act.wd a ds) w
 | [],a,w,_,h=>hN _ _ h
 | o::l,a,w,hk,h=>by
  have hl:=λj b=>hk j (mC _ b);unfold wpList at h;unfold wpListIn;have e:yielded ops (Act.wd a []).tmps=yielded ops (Act.wd a ds).tmps:=rfl;rw[e]at h;split
  ·rename_i hw;rw[zC hw]at h;rcases h with h|⟨_,a0,w0,hq⟩
   ·exact FH (hk o oh) h (λg i d hd=>Cq hp ho hN l g i hl (by rw[VU hd];exact d)) hp ho
   ·exact(ho _ _ hq).elim
  ·rename_i hw;rw[zB hw,sT]at h;refine⟨λ_ _=>trivial,?_⟩;rw[sT];exact Cq hp ho hN l _ w hl h
structure lE (ds:List Deferred) (N:Nat) (ρ:Env) (a:Act):Prop where
 f:Fits N ρ (Act.wd a [])
 d:a.defers=ds
theorem lE.ev {ds:List Deferred}{N:Nat}{ρ:Env}{a:Act}(h:lE ds N ρ a):∀x v,ev ρ x=some v->a.eval x=v:=λx v b=>h.f.ev x v b
def Ci (Q:Act->World->Prop):Exit->Act->World->Prop
 | .normal,a,w=>Q a w
 | _,_,_=>False
def pj (P:Program)(dz:Bool)(ops:Array Oper)(draw:Bool):RH->Bool
 | .seq _=>!draw&&(dz||ops.all (jF P))
 | .held _ _ _=>draw&&ops.all (jF P)
 | .gR _ _ _ _=>draw&&ops.all (jF P)
 | _=>false
theorem CD {ops:Array Oper}(h:ops.all (jF P)=true):∀o∈ops,jF P o=true:=λo a=>by rw[Array.all_eq_true']at h;exact h o a
theorem Dq {N id:Nat}{ops:Array Oper}{sm:Bool}{C:List Nat}{sh:SH}{K:Env->Hp->Prop}{ρ:Env}{a:Act}{w:World}{Q:Act->World->Prop}
 (hsel:Region.noSelect ops=true) (h:yk P N sm C sh ops ρ w.heap K)
 (hf:Fits N ρ a) (hK:∀ρ' a' w',Fits N ρ' a'->Xd w w'->VP ops.toList ρ ρ'->K ρ' w'.heap->Q a' w'):wpAny P .any ops (Ci Q) ops.size (Array.replicate ops.size false) a {w with drawn:=w.drawn+1}:=by
 have hd:Xd w {w with drawn:=w.drawn+1}:=⟨rfl,rfl,rfl,zD _⟩;have e:Ci Q=λe a w=>match e with | .normal=>Q a w|_=>False:=by funext e a w;cases e<;>rfl
 rw[e];cases sm
 ·exact Uc _ _ _ _ (Z2 (S:=λ_=>True) (w:={w with drawn:=w.drawn+1}) (Qn:=Q) hsel (λ_ _=>trivial) 400 ops.size h hf (iq.start ops) (.inl trivial) λρ' a' w' b g i d=>hK ρ' a' w' b (hd.trans g) i d)
 ·obtain⟨S,j,h⟩:=h;exact Uc _ _ _ _ (Z2 (S:=S) (w:={w with drawn:=w.drawn+1}) (Qn:=Q) hsel (λe=>by cases e) 400 ops.size h hf (iq.start ops) (.inl j) λρ' a' w' b g i d=>hK ρ' a' w' b (hd.trans g) i d)
theorem Tf {N id:Nat}{r:RH}{ops:Array Oper}{draw:Bool}{ρ:Env}{a:Act}{w:World}{K:Env->Hp->Prop}{Q:Exit->Act->World->Prop}{ds:List Deferred}
 (h:mD P N r ops draw ρ w.heap K) (ho:pj P ds.isEmpty ops draw r=true) (hf:lE ds N ρ a) (hK:∀ρ' a' w',lE ds N ρ' a'->Xd w w'->K ρ' w'.heap->Q .normal a' w'):(Code.region id ops draw).wpIn (Fw ro) m0 P Q a w:=by
 have F:Act.wd (Act.wd a []) ds=a:=by rw[B4];exact VU hf.d
 have i:∀ρ' a' w',Fits N ρ' a'->Xd w w'->K ρ' w'.heap->Q .normal (Act.wd a' ds) w':=λρ' a' w' b g e=>hK ρ' _ w' ⟨by rw[B4,VU b.defers];exact b,rfl⟩ g e;unfold mD at h;split at h
 ·rename_i A;simp only[pj,wD,qA,nG]at ho;refine wpIn_region_list ?_;rcases ho with ho|ho
  ·have s:ds=[]:=by cases ds<;>simp at ho;rfl
   subst s;have z:Act.wd a []=a:=F;rw[←z];have:=KX (ro:=ro) (m0:=m0) (Q:=Q) (tail:=[]) 400 h hf.f λρ' a' w' b g p e=>by
    have:=i ρ' a' w' b g e;rw[VU b.defers]at this;exact this
   simpa using this
  ·have:=KB (Q:=Ci λa' w'=>Q .normal (Act.wd a' ds) w') (tail:=[]) 400 h hf.f λρ' a' w' b g p e=>i ρ' a' w' b g e;have j:=Cq (ro:=ro) (m0:=m0) (ds:=ds) (Q:=Q) (ops:=ops) (λ_ _ _ h=>h) (λ_ _ h=>h) (λa w h=>h) ops.toList a w (λo x=>CD ho o (by simpa using x)) (by simpa using this);rw[VU hf.d]at j;exact j
 ·cases ho
 ·cases ho
 ·rename_i sm sh;rw[Wu]at h;simp only[zF]at h;simp only[pj,qA]at ho;refine wpIn_region_any h.1.1 ?_;have y:=Dq (id:=id) (Q:=λa' w'=>Q .normal (Act.wd a' ds) w') h.1.2 h.2 hf.f λρ' a' w' b g p e=>i ρ' a' w' b g e;have j:=Ba (ro:=ro) (m0:=m0) (ds:=ds) (Q:=Q) (CD ho) (λ_ _ _ h=>h) (λ_ _ h=>h) (λa w h=>h) _ _ _ _ y;rw[VU hf.d]at j;exact j
 ·rename_i sm js sh;rw[Wu]at h;simp only[zF]at h;simp only[pj,qA]at ho;obtain⟨⟨C,m,E⟩,J,D,h⟩:=h;refine wpIn_region_any C ?_;have y:=Dq (id:=id) (Q:=λa' w'=>Q .normal (Act.wd a' ds) w') m h hf.f λρ' a' w' b g p e=>by
   obtain⟨vs,B,A⟩:=U0 e;have u:=VT (A.mono D);exact i _ a' w' (Kn js (VQ b p) b B) g u
  have j:=Ba (ro:=ro) (m0:=m0) (ds:=ds) (Q:=Q) (CD ho) (λ_ _ _ h=>h) (λ_ _ h=>h) (λa w h=>h) _ _ _ _ y;rw[VU hf.d]at j;exact j
 ·exact h.elim
def nW (P:Program)(dz:Bool):Code->Hn->Bool
 | .skip,_=>true
 | .ret,_=>true
 | .exit _,_=>true
 | .region _ ops d,.cQ r=>pj P dz ops d r
 | .seq a b,.seq x y=>nW P dz a x&&nW P dz b y
 | .cond _ a b,.cond x y=>nW P dz a x&&nW P dz b y
 | .block _ b,.block x=>nW P dz b x
 | _,_=>false
theorem Kd {N:Nat}{ds:List Deferred}:∀(c:Code) {x:Hn} {Q:Exit->Env->Hp->Prop} {Q':Exit->Act->World->Prop} {ρ:Env} {a:Act} {w:World},
 iD P N c x Q ρ w.heap->nW P ds.isEmpty c x=true->lE ds N ρ a->(∀e ρ' a' w',lE ds N ρ' a'->Xd w w'->Q e ρ' w'.heap->Q' e a' w')->c.wpIn (Fw ro) m0 P Q' a w
 | .skip,x,Q,Q',ρ,a,w,h,ho,hf,hq=>by
  have h':Q .normal ρ w.heap:=by cases x<;>exact h
  exact wpIn_skip (hq _ ρ a w hf (.refl _) h')
 | .ret,x,Q,Q',ρ,a,w,h,ho,hf,hq=>by
  have h':Q .ret ρ w.heap:=by cases x<;>exact h
  exact wpIn_ret (hq _ ρ a w hf (.refl _) h')
 | .exit id,x,Q,Q',ρ,a,w,h,ho,hf,hq=>by
  have h':Q (.exit id) ρ w.heap:=by cases x<;>exact h
  exact wpIn_exit (hq _ ρ a w hf (.refl _) h')
 | .region id ops d,x,Q,Q',ρ,a,w,h,ho,hf,hq=>by
  cases x<;>simp only[iD]at h
  exact Tf h ho hf λρ' a' w' b j g=>hq _ ρ' a' w' b j g
 | .seq c1 c2,x,Q,Q',ρ,a,w,h,ho,hf,hq=>by
  cases x<;>simp only[iD]at h
  case seq x y=>
   simp only[nW,zF]at ho;refine wpIn_seq (Kd c1 h ho.1 hf λe ρ' a' w' b j g=>?_);cases e
   case normal=>exact Kd c2 g ho.2 b λe r p u m s z=>hq e r p u m (j.trans s) z
   all_goals exact hq _ ρ' a' w' b j g
  case kA=>cases ho
 | .cond c c1 c2,x,Q,Q',ρ,a,w,h,ho,hf,hq=>by
  cases x<;>simp only[iD]at h
  simp only[nW,zF]at ho;obtain⟨t,B,h⟩:=Kz h;refine wpIn_cond_split (hf.ev _ _ B) (λe=>?_) (λe=>?_)
  ·exact Kd c1 (h.t e) ho.1 hf hq
  ·exact Kd c2 (h.f e) ho.2 hf hq
 | .block id c1,x,Q,Q',ρ,a,w,h,ho,hf,hq=>by
  cases x<;>simp only[iD]at h
  refine wpIn_block (Kd c1 h ho hf λe ρ' a' w' b j g=>?_);cases e
  case exit i=>
   simp only[vF]at g;simp only[Exit.inBlock];split at g
   ·rename_i e;have A:i=id:=jQ e;rw[zC A];exact hq _ ρ' a' w' b j g
   ·rename_i e;have A:i≠id:=λh=>by subst h;simp at e
    rw[zB A];exact hq _ ρ' a' w' b j g
  all_goals exact hq _ ρ' a' w' b j g
 | .loop ..,x,Q,Q',ρ,a,w,h,ho,hf,hq=>(by cases x<;>cases ho)
 | .scope ..,x,Q,Q',ρ,a,w,h,ho,hf,hq=>(by cases x<;>cases ho)
 | .label ..,x,Q,Q',ρ,a,w,h,ho,hf,hq=>(by cases x<;>cases ho)
 | .rangeFunc ..,x,Q,Q',ρ,a,w,h,ho,hf,hq=>(by cases x<;>cases ho)
 | .goto ..,x,Q,Q',ρ,a,w,h,ho,hf,hq=>(by cases x<;>cases ho)
 | .refuse ..,x,Q,Q',ρ,a,w,h,ho,hf,hq=>(by cases x<;>cases ho)
def Hu (P:Program)(l:Nat)(args:List Value)(h:Hp)(R:aO):Prop:=
 ∀w:World,w.heap=h->∃fn tmps asg bd,(Instr.yield l args.toArray).run P w=.ok (.round l fn tmps asg bd) w/\RoundIn Fence.wide 0 P l fn tmps asg bd w λe w'=>Xd w w'/\∃b,e=.returned (.bool b)/\R b w'.heap
def yK (P:Program)(o:Oper)(ρ:Env)(h:Hp)(K:Value->Hp->Prop):Prop:=match o.op with
 | .call c=>match c.callee with
  | .value (.tmp t)=>match ρ t,p8 ρ c.args.toList with
   | some (.func (.yield l) first cap),some args=>fR (first.isEmpty&&cap.isEmpty) (Hu P l args h λb h'=>K (.bool b) h')
   | _,_=>False
  | _=>si P o.op o.type ρ h K
 | _=>si P o.op o.type ρ h K
theorem PE {ρ:Env}{o:Oper}{a:Act}{w:World}{K:Value->Hp->Prop}{next:Act->World->Prop}{Q:Exit->Act->World->Prop}(hf:∀x v,ev ρ x=some v->a.eval x=v)
 (h:yK P o ρ w.heap K) (hn:∀v w',Xd w w'->K v w'.heap->next (a.put o.dst v) w'):o.wpIn (Fw ro) m0 P a w next Q:=by
 have d:si P o.op o.type ρ w.heap K->o.wpIn (Fw ro) m0 P a w next Q:=λh=>QV.uponIn (UK hf o h) hn
 unfold yK at h;split at h
 ·rename_i c hc;split at h
  ·rename_i t ht;split at h
   ·rename_i l first cap args hρ hargs
    rw[Wu]at h;obtain⟨g,h⟩:=h;simp only[zF,xI]at g;obtain⟨rfl,rfl⟩:=g;have y:∀c,o.op≠.defer c:=λL A=>by rw[hc]at A;cases A
    refine⟨λ_ _=>trivial,?_⟩;rw[Oper.semAt_eq _ _ _ y];obtain⟨C,m,r,F,E,B⟩:=h w rfl;have e1:=ZR hf hargs;have j:c.args.map a.eval=args.toArray:=by apply Array.ext';simpa using e1
    have e2:a.eval (.tmp t)=.func (.yield l) #[] #[]:=hf (.tmp t) _ hρ;have i:(execOp a.eval o).run P w=.ok (.round l C m r F) w:=by
     obtain⟨dst,op,M,pos,z,s⟩:=o;simp only at hc;subst hc;obtain⟨p,u,D⟩:=c;simp only at ht j;subst ht;simpa[execOp,resolve,j,e2,Deferred.ofValue,invoke]using E
    rw[i];refine⟨λh=>by simp[Fw,Fence.wide]at h,?_⟩;refine RoundIn.mono (R:=λe w'=>Xd w w'/\∃b,e=.returned (.bool b)/\K (.bool b) w'.heap) ⟨trivial,λc J _=>B.2 c J (room_wide _)⟩ ?_;rintro e w' ⟨H,b,rfl,G⟩;exact hn _ _ H G
   ·exact h.elim
  ·exact d h
 ·exact d h
def yU (P:Program)(N:Nat):List Oper->Env->Hp->(Env->Hp->Prop)->Prop
 | [],ρ,h,K=>K ρ h
 | o::os,ρ,h,K=>fR (qt N o.dst&&o.guard.isNone) (yK P o ρ h λv h'=>yU P N os (ρ.im o.dst v) h' K)
theorem CR {N:Nat}{ops:Array Oper}{Q:Exit->Act->World->Prop}:∀{os:List Oper} {ρ:Env} {a:Act} {w:World} {K:Env->Hp->Prop},
 yU P N os ρ w.heap K->Fits N ρ a->(∀ρ' a' w',Fits N ρ' a'->Xd w w'->VP os ρ ρ'->K ρ' w'.heap->Q .normal a' w')->wpListIn (Fw ro) m0 P ops Q os a w
 | [],ρ,a,w,K,h,hf,hK=>hK ρ a w hf (.refl _) (λ_ _ _ h=>h) h
 | o::os,ρ,a,w,K,h,hf,hK=>by
  simp only[yU]at h;rw[Wu]at h;obtain⟨hc,h⟩:=h;simp only[zF,Option.isNone_iff_eq_none]at hc;have i:Region.wanted o (yielded ops a.tmps)=true:=by simp[Region.wanted,hc.2]
  simp only[wpListIn,i,zS];refine PE hf.ev h λv w' m j=>?_;exact CR j (hf.put hc.1 v) λρ' a' d e b p g=>hK ρ' a' d e (m.trans b) p.cons g
def gW (P:Program)(N:Nat):Code->Hn->(Exit->Env->Hp->Prop)->Env->Hp->Prop
 | .skip,_,Q,ρ,h=>Q .normal ρ h
 | .ret,_,Q,ρ,h=>Q .ret ρ h
 | .exit id,_,Q,ρ,h=>Q (.exit id) ρ h
 | .region _ ops d,.cQ r,Q,ρ,h=>mD P N r ops d ρ h λρ' h'=>Q .normal ρ' h'
 | .region _ ops false,.leaf,Q,ρ,h=>yU P N ops.toList ρ h λρ' h'=>Q .normal ρ' h'
 | .seq a b,.seq x y,Q,ρ,h=>gW P N a x (uv (λρ' h'=>gW P N b y Q ρ' h') Q) ρ h
 | .cond c a b,.cond x y,Q,ρ,h=>Up ρ c λt=>If t (gW P N a x Q ρ h) (gW P N b y Q ρ h)
 | .block id b,.block x,Q,ρ,h=>gW P N b x (vF id Q) ρ h
 | .loop b,.loop js x,Q,ρ,h=>fR (js.all λs=>mu (fJ b) s.1)
  (XW (ma js) (λI=>rq js ρ I h) λJ=>lam (ma js) λvs h'=>gW P N b x (uv (λρ' h''=>rq js ρ' J h'') Q) (iu (ρ.dX (fJ b)) js vs) h')
 | _,_,_,_,_=>False
theorem Sm {F:Fence}{c:Code}{Q:Exit->Act->World->Prop}{a:Act}{w:World}(I:Nat->Act->World->Prop)(h0:∃n,I n a w)
 (round:∀n a w,I n a w->c.wpIn F m0 P (Exit.then (λa' w'=>∃m,m<n/\I m a' w') Q) a w):(Code.loop c).wpIn F m0 P Q a w:=by
 refine wpIn_loop (λa w=>∃n,I n a w) (λa w=>uJ λn=>I n a w) h0 λa w g=>?_;refine wpIn_mono (round _ a w (G6 g)) λe a' w' d=>?_;cases e<;>try exact d
 obtain⟨m,i,b⟩:=d;exact⟨⟨m,b⟩,Ah (IA b) i⟩
theorem KC {N:Nat}:∀(c:Code) {x:Hn} {Q:Exit->Env->Hp->Prop} {Q':Exit->Act->World->Prop} {ρ:Env} {a:Act} {w:World},
 gW P N c x Q ρ w.heap->Fits N ρ a->(∀e ρ' a' w',Fits N ρ' a'->Xd w w'->KZ (fJ c) ρ ρ'->Q e ρ' w'.heap->Q' e a' w')->c.wpIn (Fw none) m0 P Q' a w
 | .skip,x,Q,Q',ρ,a,w,h,hf,hq=>by
  have h':Q .normal ρ w.heap:=by cases x<;>exact h
  exact wpIn_skip (hq _ ρ a w hf (.refl _) (.refl _ _) h')
 | .ret,x,Q,Q',ρ,a,w,h,hf,hq=>by
  have h':Q .ret ρ w.heap:=by cases x<;>exact h
  exact wpIn_ret (hq _ ρ a w hf (.refl _) (.refl _ _) h')
 | .exit id,x,Q,Q',ρ,a,w,h,hf,hq=>by
  have h':Q (.exit id) ρ w.heap:=by cases x<;>exact h
  exact wpIn_exit (hq _ ρ a w hf (.refl _) (.refl _ _) h')
 | .region id ops d,x,Q,Q',ρ,a,w,h,hf,hq=>by
  cases x
  case cQ r=>
   have h':mD P N r ops d ρ w.heap λρ' h'=>Q .normal ρ' h':=by cases d<;>simpa only[gW]using h
   exact wpIn_wide.2 (Fj h' hf λρ' a' w' b j s g=>hq _ ρ' a' w' b j s g)
  case leaf=>
   cases d<;>simp only[gW]at h
   refine wpIn_region_list (CR h hf λρ' a' w' b j s g=>hq _ ρ' a' w' b j s g)
  all_goals (cases d<;>simp only[gW]at h)
 | .seq c1 c2,x,Q,Q',ρ,a,w,h,hf,hq=>by
  cases x<;>simp only[gW]at h
  refine wpIn_seq (KC c1 h hf λe ρ' a' w' b j s g=>?_);cases e
  case normal=>exact KC c2 g b λe ρ'' B A p u K H=>hq e ρ'' B A p (j.trans u) (s.trans K) H
  all_goals exact hq _ ρ' a' w' b j (s.mono λi y=>kr _ y) g
 | .cond c c1 c2,x,Q,Q',ρ,a,w,h,hf,hq=>by
  cases x<;>simp only[gW]at h
  obtain⟨t,S,h⟩:=Kz h;refine wpIn_cond_split (hf.ev _ _ S) (λe=>?_) (λe=>?_)
  ·exact KC c1 (h.t e) hf λe ρ' a' w' b j s g=>hq e ρ' a' w' b j (s.mono λi y=>kr _ y) g
  ·exact KC c2 (h.f e) hf λe ρ' a' w' b j s g=>hq e ρ' a' w' b j (s.mono λi y=>nS _ y) g
 | .block id c1,x,Q,Q',ρ,a,w,h,hf,hq=>by
  cases x<;>simp only[gW]at h
  refine wpIn_block (KC c1 h hf λe ρ' a' w' b j s g=>?_);cases e
  case exit i=>
   simp only[vF]at g;simp only[Exit.inBlock];split at g
   ·rename_i e;have M:i=id:=jQ e;rw[zC M];exact hq _ ρ' a' w' b j s g
   ·rename_i e;have M:i≠id:=λh=>by subst h;simp at e
    rw[zB M];exact hq _ ρ' a' w' b j s g
  all_goals exact hq _ ρ' a' w' b j s g
 | .loop c1,x,Q,Q',ρ,a,w,h,hf,hq=>by
  cases x<;>simp only[gW]at h
  rename_i js x;rw[Wu]at h;obtain⟨F,I,μ,L,V⟩:=h;refine Sm (λn a' w'=>∃vs,Fits N (iu (ρ.dX (fJ c1)) js vs) a'/\Xd w w'/\Sat (ma js) (Gy (ma js) I μ (· = n)) vs w'.heap) ?_ ?_
  ·obtain⟨vs,R,L⟩:=U0 L;obtain⟨n,E⟩:=UY μ L;exact⟨n,vs,Kn js (hf.weaken (xh _ _)) hf R,.refl _,E⟩
  ·rintro n a' w' ⟨vs,b,j,E⟩;have:=VT (E.mono (V n));have U:=(UI (fJ c1) ρ).trans (Ky (fJ c1) js (ρ.dX (fJ c1)) vs F);refine KC c1 this b λe ρ'' B A p u s g=>?_;have z:KZ (fJ c1) ρ ρ'':=(U.trans s).mono λi y=>by
    simp only[zK]at y;rcases y with(h|h)|h<;>exact h
   cases e
   case normal=>
    obtain⟨J,D,G⟩:=U0 g;obtain⟨m,W,C⟩:=HQ G;exact⟨m,W,J,Kn js (VQ p z) p D,j.trans u,C⟩
   all_goals exact hq _ ρ'' B A p (j.trans u) z g
 | .scope ..,x,Q,Q',ρ,a,w,h,hf,hq=>(by cases x<;>simp only[gW]at h)
 | .label ..,x,Q,Q',ρ,a,w,h,hf,hq=>(by cases x<;>simp only[gW]at h)
 | .rangeFunc ..,x,Q,Q',ρ,a,w,h,hf,hq=>(by cases x<;>simp only[gW]at h)
 | .goto ..,x,Q,Q',ρ,a,w,h,hf,hq=>(by cases x<;>simp only[gW]at h)
 | .refuse ..,x,Q,Q',ρ,a,w,h,hf,hq=>(by cases x<;>simp only[gW]at h)
def A6 (P:Program)(f:Nat)(args:Array Value)(h:Hp)(R:aP):Prop:=
 ∀w:World,w.heap=h->∀m,CallsIn Fence.wide m P f args w λe w'=>Xd w w'/\(∃v,e=.returned v)/\R w'.heap
def Fe (P:Program)(fn:Func)(x:Hn)(args:List Value)(R:aP)(h:Hp):Prop:=
 match fn.body with
 | some c=>fR (Nat.ble args.length fn.ntmps&&fn.results.isEmpty) (gW P fn.ntmps c x (λe ρ h=>match e with | .normal=>R h | .ret=>R h|_=>False) (Gq args) h)
 | none=>False
theorem Pv {f:Nat}{fn:Func}{x:Hn}{args:List Value}{R:aP}{h:Hp}(hfn:P.funcs[f]?=some fn)(hk:Fe P fn x args R h):A6 P f args.toArray h R:=by
 intro w hw m;subst hw;unfold Fe at hk;split at hk
 case h_2=>exact hk.elim
 rename_i c hb;rw[Wu]at hk;obtain⟨d,hk⟩:=hk;simp only[zF,xI]at d;have y:args.length<=fn.ntmps:=xU d.1;refine callsIn_of_wp_marks hfn hb trivial ?_;have a:∀b w,(results fn b).run P w=.ok (.tuple #[]) w:=λb w=>by
  simp[results,d.2]
 refine KC c hk (ρ:=Gq args) ⟨rfl,by simp;omega,λi v p=>?_⟩ λe z s A u r B j=>?_
 ·simp only[Gq]at p;have g:i<args.length:=(cX.1 p).1;rw[td (by simpa using g)];simpa using p
 ·cases e
  case normal=>
   show LeavesInM _ _ _ _ _ _ s.defers _ _;rw[u.defers];exact⟨_,a _ _,r,⟨_,rfl⟩,j⟩
  case ret=>
   show LeavesInM _ _ _ _ _ _ s.defers _ _;rw[u.defers];exact⟨_,a _ _,r,⟨_,rfl⟩,j⟩
  all_goals exact j.elim
end Go.Vc
namespace Go.Vc
open Go
variable {m0:Nat}{P:Program}
def vB (P:Program)(fv:Fv)(xs:List (List Value))(Kp:aP):Prop:=
 ∀(l:Nat) (J:Nat->Hp->Prop),(∀k h h',J k h->aG h h'->J k h')->(∀k h,J k h->Kp h) →
  (∀k x,xs[k]?=some x->∀h,J k h->Hu P l x h λb h'=>b=true/\J (k+1) h') →
  ∀h,J 0 h->A6 P fv.f (#[.func (.yield l) #[] #[]]++fv.captured) h λh'=>J xs.length h'
def Ce (P:Program){α:Type}(enc:α->List Value)(fv:Fv)(h:Hp)(round:α->(Hp->Prop)->Hp->Prop)(K:aP):Prop:=
 fv.first = #[]/\V4 P fv.f=true/\∃(xs:List α) (Kp:aP) (I:Nat->Hp->Prop),vB P fv (xs.map enc) Kp/\(∀k s s',I k s->Ext (λb=>b=h.size\/b=h.size+1) s s'->I k s')/\(∀k s,I k s->Kp s)/\I 0 h ∧
  (∀k x,xs[k]?=some x->∀s,I k s->h.size+2<=s.size->round x (λs'=>I (k+1) s'/\s'[h.size]?=s[h.size]?/\s'[h.size+1]?=s[h.size+1]?) s) ∧
  (∀s,I xs.length s->s[h.size]?=some (.deferred (some []))->K s)
def oZ:List Nat->List Value->Env->Env
 | p::ps,v::vs,ρ=>oZ ps vs (ρ.put p v)
 | _,_,ρ=>ρ
theorem D9 {N:Nat}:∀(ps:List Nat) (vs:List Value) {ρ:Env} {t:Array Value},(∀p∈ps,p<N)->Fits N ρ {tmps:=t,defers:=[]}->Fits N (oZ ps vs ρ) {tmps:=(ps.zip vs).foldl (λt (x:Nat×Value)=>t.setIfInBounds x.1 x.2) t,defers:=[]}
 | [],vs,ρ,t,_,hf=>by cases vs<;>exact hf
 | p::ps,[],ρ,t,_,hf=>hf
 | p::ps,v::vs,ρ,t,hp,hf=>by
  have h1:=hf.put (d:=some p) (show Nat.blt p N=true by rw[Nat.blt_eq];exact hp p oh) v;exact D9 ps vs (λq a=>hp q (mC _ a)) h1
def qy (N:Nat):List Oper->Env->Option Env
 | [],ρ=>some ρ
 | o::os,ρ=>match o.op,o.dst,o.guard with
  | .assign x,some d,none=>match ev ρ x with
   | some v=>bif Nat.blt d N then qy N os (ρ.put d v)else none
   | none=>none
  | _,_,_=>none
def qs (N:Nat):Code->Env->Option Env
 | .region _ ops false,ρ=>qy N ops.toList ρ
 | .skip,ρ=>some ρ
 | _,_=>none
theorem DD {N:Nat}{F:Fence}{ops:Array Oper}{Q:Exit->Act->World->Prop}(hF:∀f,F.fn f):∀{os:List Oper} {ρ ρ':Env} {a:Act} {w:World},qy N os ρ=some ρ'->Fits N ρ a->(∀a',Fits N ρ' a'->Q .normal a' w)->wpListIn F m0 P ops Q os a w
 | [],ρ,ρ',a,w,h,hf,hq=>by cases h;exact hq a hf
 | o::os,ρ,ρ',a,w,h,hf,hq=>by
  unfold qy at h;split at h
  ·rename_i x d hop hd hg;split at h
   ·rename_i v hv;cases hb:Nat.blt d N with
    | false=>rw[hb]at h;cases h
    | true=>
     rw[hb]at h;have hw:Region.wanted o (yielded ops a.tmps)=true:=by simp[Region.wanted,hg]
     simp only[wpListIn,hw,zS];refine⟨λf _=>hF f,?_⟩;rw[Oper.semAt_eq _ _ _ (λc e=>by rw[hop]at e;cases e)];have g:(execOp a.eval o).run P w=.ok (.value v) w:=by
      unfold execOp;rw[hop];simp only;rw[Sem.run_pure,hf.ev x v hv]
     rw[g];have b:=hf.put (d:=some d) hb v;rw[Oper.uponIn_value,hd];exact DD hF h b hq
   ·cases h
  ·cases h
theorem Od {N:Nat}{F:Fence}{c:Code}{Q:Exit->Act->World->Prop}(hF:∀f,F.fn f){ρ ρ':Env}{a:Act}{w:World}(h:qs N c ρ=some ρ')(hf:Fits N ρ a)(hq:∀a',Fits N ρ' a'->Q .normal a' w):c.wpIn F m0 P Q a w:=by
 unfold qs at h;split at h
 ·exact wpIn_region_list (DD hF h hf hq)
 ·cases h;exact wpIn_skip (hq a hf)
 ·cases h
def wk (P:Program)(N n:Nat){α:Type}(enc:α->List Value)(fv:Fv)(ps:Array Nat)(asg bd:Code)(x:Hn)(ρ:Env)(h:Hp)(K:aP):Prop:=
 fR (Nat.beq ps.toList.length n&&(ps.toList.all (λp=>Nat.blt p N)&&nW P true bd x))
  (Ce P enc fv h (λy J s=>match qs N asg (oZ ps.toList (enc y) ρ)with
   | some ρ'=>iD P N bd x (λe _ s'=>match e with | .normal=>J s'|_=>False) ρ' s
   | none=>False) K)
theorem HO {w:World}{o:Obj}{b:Nat}(h:b<w.heap.size):(w.alloc o).heap[b]?=w.heap[b]? := by
 show(w.heap.push o)[b]?=w.heap[b]?;rw[wG,zB O]
theorem UP (w:World)(l:Nat)(o:Obj):Xd w (w.putObj l o):=⟨rfl,rfl,rfl,by simp⟩
theorem BW {w:World}{l:Nat}{o:Obj}{F:Nat->Prop}(hl:F l):Ext F w.heap (w.putObj l o).heap:=⟨by simp,λb d a=>World.putObj_heap_other λe=>a (by rw[e];exact hl)⟩
theorem PS {N n:Nat}{α:Type}{enc:α->List Value}(henc:∀y,(enc y).length=n){fv:Fv}{g:Operand}{ps:Array Nat}{asg bd:Code}{x:Hn}{ρ:Env}{a:Act}{w:World}{K:aP}{Q:Exit->Act->World->Prop}
 (hg:a.eval g=.func (.func fv.f) fv.first fv.captured) (hf:Fits N ρ a) (h:wk P N n enc fv ps asg bd x ρ w.heap K)
 (hQ:∀w',Xd w w'->w'.heap[w.heap.size]?=some (.deferred (some []))->K w'.heap->Q .normal {a with defers:={target:=.collected w.heap.size,args := #[]}::a.defers} w'):(Code.rangeFunc g ps asg bd).wpIn Fence.wide m0 P Q a w:=by
 unfold wk at h;rw[Wu]at h;obtain⟨hc,z,H,xs,Kp,I,V,m,ac,h0,C,S⟩:=h;simp only[zF,ke]at hc;obtain⟨hn,hps,ae⟩:=hc;have X:∀y,(enc y).length=ps.size:=λy=>by
  rw[henc y,←jQ hn];simp
 rw[z]at hg;refine wpIn_rangeFunc ?_;intro fn hfn;obtain⟨i,d⟩:∃i:LoopState->Option Code->Loop,i=λst pe=>{state:=st,pending:=pe,fn,tmps:=a.tmps,params:=ps,assign:=asg,body:=bd,defers:=w.heap.size}:=⟨_,rfl⟩;obtain⟨W1,j⟩:∃W1,(w.alloc (.deferred (some []))).alloc (.loop (i .ready none))=W1:=⟨_,rfl⟩;have hsz:W1.heap.size=w.heap.size+2:=by rw[←j];simp
 have Z:W1.heap[w.heap.size+1]?=some (.loop (i .ready none)):=by
  rw[←j];have:=World.alloc_heap_new (w.alloc (.deferred (some []))) (.loop (i .ready none));rwa [World.size_alloc]at this
 have hK1:W1.heap[w.heap.size]?=some (.deferred (some [])):=by
  rw[←j];exact(HO aA).trans (World.alloc_heap_new w _)
 have ad:aG w.heap W1.heap:=⟨O,λb u _=>by
  rw[←j];exact(HO aE).trans (HO u)⟩
 have aa:Xd w W1:=⟨by rw[←j];rfl,by rw[←j];rfl,by rw[←j];rfl,O⟩;have M:∀{s s':Hp},aG s s'->Ext (λb=>b=w.heap.size\/b=w.heap.size+1) s s':=λe=>⟨e.1,λb u _=>e.2 b u id⟩;have bS:∀{s s':Hp} {b:Nat} {o:Obj},aG s s'->s[b]?=some o->s'[b]?=some o:=λe u=>(e.2 _ (zz.1 u).1 id).trans u;refine⟨w.heap.size+1,[{target:=.collected w.heap.size,args := #[]}],W1,{target:=.fn (.func fv.f) fv.captured,args := #[.func (.yield (w.heap.size+1)) #[] #[]]},W1,fv.f,
  #[.func (.yield (w.heap.size+1)) #[] #[]]++fv.captured,W1,?_,?_,λ_ _=>trivial,?_,λh=>by simp[Fence.wide]at h,?_⟩
 ·rw[←j,d];exact run_enterLoop_outer _ _ _ _ _
 ·simp only[resolve,hg];simp[go_sem]
 ·simp only[invoke];exact Vu H _ _
 ·refine(V (w.heap.size+1) (λk s=>I k s/\s[w.heap.size+1]?=some (.loop (i .ready none))/\s[w.heap.size]?=some (.deferred (some [])))
   (λk s s' U e=>⟨m k s s' U.1 (M e),bS e U.2.1,bS e U.2.2⟩) (λk s U=>ac k s U.1) ?_ W1.heap ⟨m 0 _ _ h0 (M ad),Z,hK1⟩ W1 rfl (m0-1)).mono ?_
  ·rintro k xv hx s ⟨hI,hl,hk⟩ W rfl;rw[zg,oT]at hx;obtain⟨y,hy,rfl⟩:=hx;have ab:w.heap.size+1<W.heap.size:=(zz.1 hl).1;have Y:=run_yield (P:=P) (args:=(enc y).toArray) hl (by rw[d];simpa using X y);rw[d]at Y;refine⟨fn,_,asg,bd,Y,roundIn_of_wpIn trivial ?_⟩;have hr:=C k y hy;cases hasg:qs N asg (oZ ps.toList (enc y) ρ)with
   | none=>
    have:=hr W.heap hI O;simp only[hasg]at this
   | some ρ'=>
    have af:Fits N (oZ ps.toList (enc y) ρ) {tmps:=(ps.zip (enc y).toArray).foldl (λtmps (t,a)=>tmps.setIfInBounds t a) a.tmps,defers:=[]}:=by
     have h1:=D9 ps.toList (enc y) (t:=a.tmps) (λp hp=>by have:=hps p hp;rwa [Nat.blt_eq]at this) (by
      have:=hf;exact⟨rfl,this.size,this.at_⟩)
     have h2:(ps.zip (enc y).toArray).foldl (λtmps (t,a)=>tmps.setIfInBounds t a) a.tmps=(ps.toList.zip (enc y)).foldl (λt (x:Nat×Value)=>t.setIfInBounds x.1 x.2) a.tmps:=by
      rw[←Array.foldl_toList];simp
     rw[h2];exact h1
    refine Od (F:=Fence.wide.inRound (w.heap.size+1)) (λf=>trivial) hasg af λa1 J=>⟨_,run_beginRound hl (by rw[d]),?_⟩;have D:(W.putObj (w.heap.size+1) (.loop {i .ready none with state:=.busy})).heap[w.heap.size+1]?=some (.loop {i .ready none with state:=.busy}):=World.putObj_heap_same ab;have B:(W.putObj (w.heap.size+1) (.loop {i .ready none with state:=.busy})).heap[w.heap.size]?=some (.deferred (some [])):=(World.putObj_heap_other O).trans hk;have u:=hr (W.putObj (w.heap.size+1) (.loop {i .ready none with state:=.busy})).heap (m k _ _ hI (BW (.inr rfl))) (by rw[World.putObj_size];omega);simp only[hasg]at u;refine Kd (ro:=some (w.heap.size+1)) (m0:=0) (ds:=[]) bd u ae ⟨by rw[VU J.defers];exact J,J.defers⟩ λe ρ2 a2 w2 hf2 E hq=>?_;cases e
    case normal=>
     obtain⟨A,R,G⟩:=hq;rw[D]at G;rw[B]at R;have r:=run_endRound (P:=P) none G;refine⟨_,_,r,((UP _ _ _).trans E).trans (UP _ _ _),true,rfl,rfl,m _ _ _ A (BW (.inr rfl)),?_,(World.putObj_heap_other O).trans R⟩;rw[World.putObj_heap_same (zz.1 G).1,d];rfl
    all_goals exact hq.elim
  ·rintro e W2 ⟨E,⟨v,rfl⟩,A,D,B⟩;have r:=run_endLoop (P:=P) D (by rw[d];simp);refine⟨none,_,by rw[d]at r;exact r,?_⟩;have hlt2:=(zz.1 B).1;rw[zl]at A;have L:∀o,(W2.putObj (w.heap.size+1) o).heap[w.heap.size]?=some (.deferred (some [])):=λo=>(World.putObj_heap_other O).trans B;exact hQ _ ((aa.trans E).trans (UP _ _ _)) (L _) (S _ (m _ _ _ A (BW (.inr rfl))) (L _))
def uO (D:Nat)(s:Hp)(K:aP):Prop:=s[D]?=some (.deferred (some []))/\K (s.setIfInBounds D (.deferred none))
def pH (P:Program)(fn:Func)(rs:List SK)(R:eR (eT rs))(D:Nat):Exit->Env->Hp->Prop
 | .normal,ρ,h=>uO D h λh'=>lC P fn.results.toList rs ρ h' λvs=>rD (eT rs) R vs h'
 | .ret,ρ,h=>uO D h λh'=>lC P fn.results.toList rs ρ h' λvs=>rD (eT rs) R vs h'
 | _,_,_=>False
inductive TX where
 | nx (x:Hn) (t:TX)
 | r1 (y:Hn) (c:CK) (bd b:Hn)
 | r2 (y:Hn) (c d:CK) (bd b:Hn)
def e1 (c:CK)(y:c.T):List Value:=[c.v y]
def e2 (c d:CK)(y:c.T×d.T):List Value:=[c.v y.1,d.v y.2]
def sK (P:Program)(fn:Func)(rs:List SK)(R:eR (eT rs)):Code->TX->Env->Hp->Prop
 | .seq a b,.nx x t,ρ,h=>iD P fn.ntmps a x (uv (λρ' h'=>sK P fn rs R b t ρ' h') (oE P fn rs R)) ρ h
 | .seq (.seq r (.block _ (.rangeFunc g ps asg bd))) b,.r1 y c yb yc,ρ,h=>iD P fn.ntmps r y (λe ρ' h'=>match e with
  | .normal=>wv (ev ρ' g) λvg=>mR .fn vg λfv=>fR (nW P false b yc) (wk P fn.ntmps 1 (e1 c) fv ps asg bd yb ρ' h' λs=>iD P fn.ntmps b yc (pH P fn rs R h'.size) ρ' s)
  | _=>False) ρ h
 | .seq (.seq r (.block _ (.rangeFunc g ps asg bd))) b,.r2 y c d yb yc,ρ,h=>iD P fn.ntmps r y (λe ρ' h'=>match e with
  | .normal=>wv (ev ρ' g) λvg=>mR .fn vg λfv=>fR (nW P false b yc) (wk P fn.ntmps 2 (e2 c d) fv ps asg bd yb ρ' h' λs=>iD P fn.ntmps b yc (pH P fn rs R h'.size) ρ' s)
  | _=>False) ρ h
 | _,_,_,_=>False
theorem Hr {fn:Func}{rs:List SK}{R:eR (eT rs)}{w0:World}{e:Exit}{ρ:Env}{a:Act}{w:World}(hf:Fits fn.ntmps ρ a)(io:Xd w0 w)(h:oE P fn rs R e ρ w.heap) :
 bodyPostM Fence.wide m0 P fn (λe w'=>Xd w0 w'/\∃vs,e=.returned (pack rs vs)/\Sat (eT rs) R vs w'.heap) e a w:=by
 cases e<;>simp only[oE]at h
 case normal=>
  obtain⟨vs,b,d⟩:=Vp hf h;show LeavesInM _ _ _ _ _ _ a.defers _ _;rw[hf.defers];exact⟨_,d,io,vs,rfl,U3 b⟩
 case ret=>
  obtain⟨vs,b,d⟩:=Vp hf h;show LeavesInM _ _ _ _ _ _ a.defers _ _;rw[hf.defers];exact⟨_,d,io,vs,rfl,U3 b⟩
theorem PR {fn:Func}{rs:List SK}{R:eR (eT rs)}{w0:World}{D:Nat}{e:Exit}{ρ:Env}{a:Act}{w:World}(hf:lE [{target:=.collected D,args := #[]}] fn.ntmps ρ a)(io:Xd w0 w)(h:pH P fn rs R D e ρ w.heap) :
 bodyPostM Fence.wide m0 P fn (λe w'=>Xd w0 w'/\∃vs,e=.returned (pack rs vs)/\Sat (eT rs) R vs w'.heap) e a w:=by
 have b:∀{K:List Value->Prop},(uO D w.heap λi=>lC P fn.results.toList rs ρ i λvs=>rD (eT rs) R vs i) →
  LeavesInM Fence.wide m0 P fn a.tmps (λe w'=>Xd w0 w'/\∃vs,e=.returned (pack rs vs)/\Sat (eT rs) R vs w'.heap) a.defers .returning w:=by
  intro K hd;obtain⟨m,g⟩:=hd;rw[hf.d];obtain⟨vs,p,j⟩:=Vp (w:=w.putObj D (.deferred none)) hf.f g;exact⟨by simp,.inl ⟨_,_,rfl,run_takeDeferred m,_,j,io.trans (UP _ _ _),vs,rfl,U3 p⟩⟩
 cases e<;>simp only[pH]at h
 case normal=>exact b (K:=λ_=>True) h
 case ret=>exact b (K:=λ_=>True) h
theorem JK {fn:Func}{rs:List SK}{R:eR (eT rs)}{w0:World}:∀(c:Code) {t:TX} {ρ:Env} {a:Act} {w:World},sK P fn rs R c t ρ w.heap->Fits fn.ntmps ρ a->Xd w0 w →
 c.wpIn Fence.wide m0 P (bodyPostM Fence.wide m0 P fn (λe w'=>Xd w0 w'/\∃vs,e=.returned (pack rs vs)/\Sat (eT rs) R vs w'.heap)) a w:=by
 intro c;have L:∀{α:Type} {n:Nat} {enc:α->List Value} (henc:∀y,(enc y).length=n) {r b:Code} {y yb yc:Hn} {id:Nat} {g:Operand} {ps:Array Nat} {asg bd:Code} {ρ:Env} {a:Act} {w:World},
  iD P fn.ntmps r y (λe u J=>match e with
   | .normal=>wv (ev u g) λK=>mR .fn K λM=>fR (nW P false b yc) (wk P fn.ntmps n enc M ps asg bd yb u J λs=>iD P fn.ntmps b yc (pH P fn rs R J.size) u s)
   | _=>False) ρ w.heap->Fits fn.ntmps ρ a->Xd w0 w →
  (Code.seq (.seq r (.block id (.rangeFunc g ps asg bd))) b).wpIn Fence.wide m0 P (bodyPostM Fence.wide m0 P fn (λe w'=>Xd w0 w'/\∃vs,e=.returned (pack rs vs)/\Sat (eT rs) R vs w'.heap)) a w:=by
  intro α n enc henc r b y yb yc id g ps asg bd ρ a w h hf io;refine wpIn_seq (wpIn_seq (wpIn_wide.2 (Qu r h hf λe u C w' j m U p=>?_)));cases e
  case normal=>
   obtain⟨K,N,B⟩:=Wr p;obtain⟨M,rfl,z⟩:=VM B;rw[Wu]at z;obtain⟨G,H⟩:=z;refine wpIn_block (PS henc (j.ev _ _ N) j H λW F Y Q=>?_);have D:lE [{target:=.collected w'.heap.size,args := #[]}] fn.ntmps u {C with defers:={target:=.collected w'.heap.size,args := #[]}::C.defers}:=
    ⟨⟨rfl,j.size,j.at_⟩,by simp only[j.defers]⟩
   exact Kd (ro:=none) (ds:=[{target:=.collected w'.heap.size,args := #[]}]) b Q G D λe V Z X A E S=>PR A (((io.trans m).trans F).trans E) S
  all_goals exact p.elim
 induction c with
 | seq a b iha ihb=>
  intro t ρ act w h hf io;cases t with
  | nx x t=>
   simp only[sK]at h;refine wpIn_seq (wpIn_wide.2 (Qu a h hf λe u C w' j m U p=>?_));cases e
   case normal=>exact ihb p j (io.trans m)
   case ret=>exact Hr (m0:=m0) (P:=P) (e:=.ret) (R:=R) j (io.trans m) p
   case exit i=>exact Hr (m0:=m0) (P:=P) (e:=.exit i) (R:=R) j (io.trans m) p
   case goto i=>exact Hr (m0:=m0) (P:=P) (e:=.goto i) (R:=R) j (io.trans m) p
   case panic i=>exact Hr (m0:=m0) (P:=P) (e:=.panic i) (R:=R) j (io.trans m) p
   case outgrown=>exact Hr (m0:=m0) (P:=P) (e:=.outgrown) (R:=R) j (io.trans m) p
  | r1 y c yb yc=>
   unfold sK at h;split at h
   case h_1 hx=>cases hx
   case h_2 heq hx=>cases heq;cases hx;exact L (n:=1) (enc:=e1 _) (λ_=>rfl) h hf io
   case h_3 hx=>cases hx
   case h_4=>exact h.elim
  | r2 y c d yb yc=>
   unfold sK at h;split at h
   case h_1 hx=>cases hx
   case h_2 hx=>cases hx
   case h_3 heq hx=>cases heq;cases hx;exact L (n:=2) (enc:=e2 _ _) (λ_=>rfl) h hf io
   case h_4=>exact h.elim
 | _=>intro t ρ act w h hf io;cases t<;>simp[sK]at h
def ED (P:Program)(fn:Func)(x:TX)(args:List Value)(rs:List SK)(R:eR (eT rs))(h:Hp):Prop:=
 match fn.body with
 | some c=>fR (Nat.ble args.length fn.ntmps) (sK P fn rs R c x (Gq args) h)
 | none=>False
theorem Ih {f:Nat}{fn:Func}{x:TX}{args:List Value}{rs:List SK}{R:eR (eT rs)}{h:Hp}(hfn:P.funcs[f]?=some fn)(hk:ED P fn x args rs R h):Wc P f args.toArray rs h R:=by
 intro w hw;subst hw;unfold ED at hk;split at hk
 case h_2=>exact hk.elim
 rename_i c hb;rw[Wu]at hk;obtain⟨a,hk⟩:=hk;have e:args.length<=fn.ntmps:=xU a;refine callsIn_wide.1 (callsIn_of_wp_marks (n:=0) hfn hb trivial (JK c hk ⟨rfl,by simp;omega,λi v b=>?_⟩ (.refl _)));simp only[Gq]at b;have d:i<args.length:=(cX.1 b).1;rw[td (by simpa using d)];simpa using b
end Go.Vc
namespace Go.Proofs
open Go.Vc
set_option maxRecDepth 100000
def WX.h:Hn:=.q .o1 (.q (.q .o3 .aJ) (.q (.q .o1 (.k (.loop [(3,.I)] (.q (.q .o4 (.c .l .l)) (.q (.k (.q (.oq 10) (.c (.q .o4 (.q (.q .o1 (.k (.loop [(3,.I),(5,.I)] (.q (.q .o4 (.c .l .l)) (.q (.k (.q (.oq 10) (.c (.q .o8 .o3) .l))) .o3))))) (.q .o4 (.q .o4 .l)))) .l))) .o3))))) .aL))
def WX.v (a:Sl)(b:Hp)(c:Sl->Hp->Prop):Prop:=If (((a.len:Nat):Int)<2) (c a b) (XW [bN] (λd=>d 1 b) λe (f:Int) g=>If (f<((a.len:Nat):Int)) (Ix a.a a.len f 1 λh=>bM h g λi=>bL (f-1) λj=>Ix a.a a.len j 1 λk=>bM k g λl=>If (i==l) (eX a 1 f (a.len:Nat) (a.cap:Nat) λm=>XW [bN,bN] (λn=>n f 1 g) λo (p:Int) (q:Int) r=>If (q<((m.len:Nat):Int)) (Ix m.a m.len q 1 λs=>bM s r λt=>bL (q-1) λu=>Ix m.a m.len u 1 λv=>bM v r λw=>If (t != w) (Ix m.a m.len q 1 λx=>bM x r λy=>Ix a.a a.len p 1 λz=>dU z (.I y) r λaa=>bL (p+1) λab=>bL (q+1) λac=>o ab ac aa) (bL (q+1) λad=>o p ad r)) (eX a 1 p (a.len:Nat) (a.cap:Nat) λae=>xE ae [.I 0] r λaf=>eX a 1 0 p (a.cap:Nat) λag=>c ag af)) (bL (f+1) λah=>e ah g)) (c a g))
theorem WX.o {a b c}(d:WX.v a b c):WX.c a b c:=Wa Tryz.func55 (x:=WX.h) (R0 d)
def Z8.wH (l:Nat)(cap0:Addr)(U:Hp)(R:aP):Prop:=
 ly cap0 U λt4=>
 nY .i64 (.ag 5) t4 U λit v=>
 XW [] (λI=>I v) λJ v1=>
 nZ .i64 (.ag 5) it v1 (R v1)
  (λkey val v2=>
  nX .i64 (.ag 5) it v2 λkey1 val1=>
  Hu Tryz.prog l [.int .i64 key1] v2 λmore v3=>
  If (!more) (R v3)
   (J v3))
def Qm.wH (l:Nat)(cap0:Addr)(U:Hp)(R:aP):Prop:=
 ly cap0 U λt4=>
 nY .i64 (.ag 4) t4 U λit v=>
 XW [] (λI=>I v) λJ v1=>
 nZ .i64 (.ag 4) it v1 (R v1)
  (λkey val v2=>
  nX .i64 (.ag 4) it v2 λkey1 val1=>
  Hu Tryz.prog l [.int .i64 key1] v2 λmore v3=>
  If (!more) (R v3)
   (J v3))
def Wi.h:Hn:=.q .o1 (.q (.q .o2 .aK) (.q .o4 .l))
def Wi.v (a:Sl)(b:Hp)(c:Sl->Hp->Prop):Prop:=If a.a.isNone (c ⟨none,0,0⟩ b) (aV #[] 137 b λd e=>App ⟨some d,0,0⟩ 3 24 137 [.I 0,.I 0,.I 0] a e λf g=>c f g)
theorem Wi.o {a b c}(d:Wi.v a b c):Wi.c a b c:=Wa Tryz.func93 (x:=Wi.h) (R0 d)
def WE.h:Hn:=.q .o1 (.q (.q .o2 .aK) (.q .o4 .l))
def WE.v (a:Sl)(b:Hp)(c:Sl->Hp->Prop):Prop:=If a.a.isNone (c ⟨none,0,0⟩ b) (aV #[] 3 b λd e=>App ⟨some d,0,0⟩ 1 8 3 [.I 0] a e λf g=>c f g)
theorem WE.o {a b c}(d:WE.v a b c):WE.c a b c:=Wa Tryz.func98 (x:=WE.h) (R0 d)
def Wk.h:Hn:=.q .o2 (.q .o5 .l)
def Wk.v (a:Sl)(b c:Bool)(d:Hp)(e:aO):Prop:=aV #[.bool b,.bool c] 161 d λf g=>aZ f 0 g λh=>aZ f 1 g λi=>Wo.c a h i g λj k=>e (decide (j≥0)) k
theorem Wk.o {a b c d e}(f:Wk.v a b c d e):Wk.c a b c d e:=Wa Tryz.func130 (x:=Wk.h) (R0 f)
def Wq.h:Hn:=.q .o1 (.q (.q .o2 .aK) (.q .o4 .l))
def Wq.v (a:Sl)(b:Hp)(c:Sl->Hp->Prop):Prop:=If a.a.isNone (c ⟨none,0,0⟩ b) (aV #[] 135 b λd e=>App ⟨some d,0,0⟩ 2 32 135 [.I 0,.slice none 0 0] a e λf g=>c f g)
theorem Wq.o {a b c}(d:Wq.v a b c):Wq.c a b c:=Wa Tryz.func161 (x:=Wq.h) (R0 d)
def Wo.h:Hn:=.q .o2 (.q (.q .o3 (.k (.loop [(8,.I)] (.q .o1 (.q (.c .l .l) (.q (.k (.q .o2 (.q (.oq 6) .aJ))) .o2)))))) .aM)
def Wo.v (a:Sl)(b c:Bool)(d:Hp)(e:aN):Prop:=aV #[.bool b,.bool c] 161 d λf g=>XW [bN] (λh=>h 0 g) λi (j:Int) k=>If (j<((a.len:Nat):Int)) (aZ f 0 k λl=>aZ f 1 k λm=>Ix a.a a.len j 2 λn=>aZ n 0 k λo=>aZ n 1 k λp=>If ((l==o)&&((m==p)&&true)) (e j k) (bL (j+1) λq=>i q k)) (e (-1) k)
theorem Wo.o {a b c d e}(f:Wo.v a b c d e):Wo.c a b c d e:=Wa Tryz.func190 (x:=Wo.h) (R0 f)
def Wm.h:Hn:=.q .o1 (.q (.q .o3 (.k (.loop [(8,.I)] (.q .o1 (.q (.c .l .l) (.q (.k (.q .o2 (.q .o6 .aJ))) .o2)))))) .aM)
def Wm.v (a:Sl)(b:Fv)(c:Hp)(d:aN):Prop:=XW [bN] (λe=>e 0 c) λf (g:Int) h=>If (g<((a.len:Nat):Int)) (Ix a.a a.len g 3 λi=>aQ i 0 h λj=>aQ i 1 h λk=>aQ i 2 h λl=>V5 Tryz.prog b [.agg #[.I j,.I k,.I l]] [.one .b] h λm n=>If m (d g n) (bL (g+1) λo=>f o n)) (d (-1) h)
theorem Wm.o {a b c d}(e:Wm.v a b c d):Wm.c a b c d:=Wa Tryz.func202 (x:=Wm.h) (R0 e)
def WW.h:Hn:=.q .o5 (.k (.loop [(2,.I),(3,.I)] (.q (.q .o3 (.c .l .l)) (.q (.k (.cQ (.held true [13,15] (.tk [0,1,2,3,4,5,6,7,8,9,10,11,12] (.all [(13,.take 14 (.all [(15,.done)]))]))))) .o6))))
def WW.v (a:Sl)(b:Hp)(c:aP):Prop:=bL (((a.len:Nat):Int)-1) λd=>XW [bN,bN] (λe=>e 0 d b) λf (g:Int) (h:Int) i=>If (g<h) (dY i λj=>Ix a.a a.len h 1 λk=>gG j bN k λ(l:Int)=>Ix a.a a.len g 1 λm=>gG j bN m λ(n:Int)=>Ix a.a a.len g 1 λo=>dU o (.I l) i λp=>Ix a.a a.len h 1 λq=>dU q (.I n) p λr=>bL (g+1) λs=>bL (h-1) λt=>f s t r) (c i)
theorem WW.o {a b c}(d:WW.v a b c):WW.c a b c:=Wa Tryz.func211 (x:=WW.h) (R0 d)
def We.h:Hn:=.q .o1 (.q .o4 (.q (.q .o2 .aJ) (.q (.q .o3 (.k (.loop [(5,.I),(6,.I)] (.q (.q .o4 (.c .l .l)) (.q (.k (.q .o6 (.q .o4 (.c (.q .o5 .o3) .l)))) .o3))))) (.q .o4 (.q .o4 .l)))))
def We.v (a:Sl)(b:Fv)(c:Hp)(d:Sl->Hp->Prop):Prop:=Wh.c a b c λe f=>If (e==(-1)) (d a f) (bL (e+1) λg=>XW [bN,bN] (λh=>h e g f) λi (j:Int) (k:Int) l=>If (k<((a.len:Nat):Int)) (Ix a.a a.len k 3 λm=>aQ m 0 l λn=>aQ m 1 l λo=>aY m 2 l λp=>aV #[.I 0,.I 0,.pointer none] 262 l λq r=>aR q 0 (.I n) r λs=>aR q 1 (.I o) s λt=>aR q 2 (.pointer p) t λu=>aQ q 0 u λv=>aQ q 1 u λw=>aY q 2 u λx=>V5 Tryz.prog b [.agg #[.I v,.I w,.pointer x]] [.one .b] u λy z=>If (!y) (aQ q 0 z λaa=>aQ q 1 z λab=>aY q 2 z λac=>Ix a.a a.len j 3 λad=>aR ad 0 (.I aa) z λae=>aR ad 1 (.I ab) ae λaf=>aR ad 2 (.pointer ac) af λag=>bL (j+1) λah=>bL (k+1) λai=>i ah ai ag) (bL (k+1) λaj=>i j aj z)) (eX a 3 j (a.len:Nat) (a.cap:Nat) λak=>xE ak [.I 0,.I 0,.pointer none] l λal=>eX a 3 0 j (a.cap:Nat) λam=>d am al))
theorem We.o {a b c d}(e:We.v a b c d):We.c a b c d:=Wa Tryz.func222 (x:=We.h) (R0 e)
def Wl.h:Hn:=.q .o1 (.q (.q .o3 (.k (.loop [(8,.I)] (.q .o1 (.q (.c .l .l) (.q (.k (.q .o2 (.q .o6 .aJ))) .o2)))))) .aM)
def Wl.v (a:Sl)(b:Fv)(c:Hp)(d:aN):Prop:=XW [bN] (λe=>e 0 c) λf (g:Int) h=>If (g<((a.len:Nat):Int)) (Ix a.a a.len g 1 λi=>fW i h λj=>V5 Tryz.prog b [.pointer j] [.one .b] h λk l=>If k (d g l) (bL (g+1) λm=>f m l)) (d (-1) h)
theorem Wl.o {a b c d}(e:Wl.v a b c d):Wl.c a b c d:=Wa Tryz.func249 (x:=Wl.h) (R0 e)
def Wb.h:Hn:=.q .o2 (.q .o3 (.q .o3 (.q (.k (.loop [(9,.I),(10,.I)] (.q (.q .o3 (.c .l .l)) (.k (.q .o7 (.q .o8 (.c .o3 .o2))))))) (.q (.cQ (.seq [.op,.op,.op,.op,.op,.cW true 8 (RI.ops 8),.op,.op])) .l))))
def Wb.v (a:Sl)(b:Int)(c:Fv)(d:Hp)(e:Int->Bool->Hp->Prop):Prop:=XW [bN,bN] (λf=>f 0 ((a.len:Nat):Int) d) λg (h:Int) (i:Int) j=>If (h<i) (bL (h+i) λk=>Ar .u64 k λl=>Nn (1:Int) <| bL (l.fdiv (2^(min (1:Int).toNat IntKind.u64.bits))) λm=>Ix a.a a.len m 3 λn=>aQ n 0 j λo=>aQ n 1 j λp=>aY n 2 j λq=>V5 Tryz.prog c [.agg #[.I o,.I p,.pointer q],.I b] [.I] j λr s=>If (r<0) (bL (m+1) λt=>g t i s) (g h m s)) (bW (λu v=>e h u v) λw=>If (h<((a.len:Nat):Int)) (Ix a.a a.len h 3 λx=>aQ x 0 j λy=>aQ x 1 j λz=>aY x 2 j λaa=>V5 Tryz.prog c [.agg #[.I y,.I z,.pointer aa],.I b] [.I] j λab ac=>w (ab==0) ac) (w false j))
theorem Wb.o {a b c d e}(f:Wb.v a b c d e):Wb.c a b c d e:=Wa Tryz.func258 (x:=Wb.h) (R0 f)
def Wg.h:Hn:=.q .o1 (.q .o3 (.q .o3 (.q (.q .o2 .aJ) (.q .o3 (.q (.q .o3 (.c (.q .o4 .l) .l)) (.q (.q .o6 (.c (.q .fP (.q .o5 (.q (.cQ (.tail 8 (RI.ops 8) [.op])) .aL))) .l)) (.q .o6 (.q (.q .o8 (.c (.q (.cQ (.tail 8 (RI.ops 8) [.op])) (.q .o5 .aL)) .l)) (.q .o5 (.q .o5 .aL))))))))))
def Wg.v (a:Sl)(b:Int)(c:Sl)(d:Hp)(e:Sl->Hp->Prop):Prop:=eX a 3 b (a.len:Nat) (a.cap:Nat) λf=>If (((c.len:Nat):Int)==0) (e a d) (If (b==((a.len:Nat):Int)) (App a 3 24 262 [.I 0,.I 0,.pointer none] c d λg h=>e g h) (bL (((a.len:Nat):Int)+((c.len:Nat):Int)) λi=>If (i>((a.cap:Nat):Int)) (eX a 3 0 b (a.cap:Nat) λj=>bL (((a.len:Nat):Int)+((c.len:Nat):Int)) λk=>bL (k-b) λl=>ug j 3 24 262 [.I 0,.I 0,.pointer none] l d λm n=>eX m 3 b (m.len:Nat) (m.cap:Nat) λo=>tQ o 3 c n λp q=>bL (b+((c.len:Nat):Int)) λr=>eX m 3 r (m.len:Nat) (m.cap:Nat) λs=>eX a 3 b (a.len:Nat) (a.cap:Nat) λt=>tQ s 3 t q λu v=>e m v) (bL (((a.len:Nat):Int)+((c.len:Nat):Int)) λw=>eX a 3 0 w (a.cap:Nat) λx=>bL (b+((c.len:Nat):Int)) λy=>eX x 3 y (x.len:Nat) (x.cap:Nat) λz=>tf Tryz.prog 288 [.slice c.a c.len c.cap,.slice z.a z.len z.cap] d λaa ab=>If (!aa) (bL (b+((c.len:Nat):Int)) λac=>eX x 3 ac (x.len:Nat) (x.cap:Nat) λad=>eX x 3 b (x.len:Nat) (x.cap:Nat) λae=>tQ ad 3 ae ab λaf ag=>eX x 3 b (x.len:Nat) (x.cap:Nat) λah=>tQ ah 3 c ag λai aj=>e x aj) (eX x 3 ((a.len:Nat):Int) (x.len:Nat) (x.cap:Nat) λak=>tQ ak 3 c ab λal am=>eX x 3 b (x.len:Nat) (x.cap:Nat) λan=>Ku.c an ((c.len:Nat):Int) am λao=>e x ao))))
theorem Wg.o {a b c d e}(f:Wg.v a b c d e):Wg.c a b c d e:=Wa Tryz.func260 (x:=Wg.h) (R0 f)
def Xf.h:Hn:=.q .o1 (.q .o7 .l)
def Xf.v (a:Sl)(b:Hp)(c:Sl->Hp->Prop):Prop:=eX a 1 0 ((a.len:Nat):Int) ((a.len:Nat):Int) λd=>c d b
theorem Xf.o {a b c}(d:Xf.v a b c):Xf.c a b c:=Wa Tryz.func261 (x:=Xf.h) (R0 d)
def Wh.h:Hn:=.q .o1 (.q (.q .o3 (.k (.loop [(8,.I)] (.q .o1 (.q (.c .l .l) (.q (.k (.q .o2 (.q .o6 .aJ))) .o2)))))) .aM)
def Wh.v (a:Sl)(b:Fv)(c:Hp)(d:aN):Prop:=XW [bN] (λe=>e 0 c) λf (g:Int) h=>If (g<((a.len:Nat):Int)) (Ix a.a a.len g 3 λi=>aQ i 0 h λj=>aQ i 1 h λk=>aY i 2 h λl=>V5 Tryz.prog b [.agg #[.I j,.I k,.pointer l]] [.one .b] h λm n=>If m (d g n) (bL (g+1) λo=>f o n)) (d (-1) h)
theorem Wh.o {a b c d}(e:Wh.v a b c d):Wh.c a b c d:=Wa Tryz.func268 (x:=Wh.h) (R0 e)
def Wx.h:Hn:=.q .o1 (.q .o5 .l)
def Wx.v (a:Sl)(b:Fv)(c:Hp)(d:aO):Prop:=WU.c a b c λe f=>d (decide (e≥0)) f
theorem Wx.o {a b c d}(e:Wx.v a b c d):Wx.c a b c d:=Wa Tryz.func270 (x:=Wx.h) (R0 e)
def Wp.h:Hn:=.q .o1 (.q .o5 .l)
def Wp.v (a:Sl)(b:Int)(c:Hp)(d:aO):Prop:=WF.c a b c λe f=>d (decide (e≥0)) f
theorem Wp.o {a b c d}(e:Wp.v a b c d):Wp.c a b c d:=Wa Tryz.func272 (x:=Wp.h) (R0 e)
def XK.h:Hn:=.q .o1 (.kA [] (.q .o3 (.c .o2 .l)) (.q .o4 (.q (.q .o1 (.k (.loop [(3,.I),(4,.I)] (.q (.q .o4 (.c .l .l)) (.q (.k .o7) .o3))))) .aL)))
def XK.v (a:Sl)(b:Hp)(c:aN):Prop:=Jn [] (λd=>Ix a.a a.len 0 1 λe=>bM e d λf=>XW [bN,bN] (λg=>g f 1 d) λh (i:Int) (j:Int) k=>If (j<((a.len:Nat):Int)) (Ix a.a a.len j 1 λl=>bM l k λm=>bL (j+1) λn=>h (if m<i then m else i) n k) (c i k)) λo=>If (((a.len:Nat):Int)<1) (False) (o b)
theorem XK.o {a b c}(d:XK.v a b c):XK.c a b c:=Wa Tryz.func284 (x:=XK.h) (R0 d)
def WU.h:Hn:=.q .o1 (.q (.q .o3 (.k (.loop [(8,.I)] (.q .o1 (.q (.c .l .l) (.q (.k (.q .o2 (.q .o6 .aJ))) .o2)))))) .aM)
def WU.v (a:Sl)(b:Fv)(c:Hp)(d:aN):Prop:=XW [bN] (λe=>e 0 c) λf (g:Int) h=>If (g<((a.len:Nat):Int)) (Ix a.a a.len g 1 λi=>bM i h λj=>V5 Tryz.prog b [.I j] [.one .b] h λk l=>If k (d g l) (bL (g+1) λm=>f m l)) (d (-1) h)
theorem WU.o {a b c d}(e:WU.v a b c d):WU.c a b c d:=Wa Tryz.func302 (x:=WU.h) (R0 e)
def WF.h:Hn:=.q .o1 (.q (.q .o3 (.k (.loop [(8,.I)] (.q .o1 (.q (.c .l .l) (.q (.k (.q .o2 (.q .o6 .aJ))) .o2)))))) .aM)
def WF.v (a:Sl)(b:Int)(c:Hp)(d:aN):Prop:=XW [bN] (λe=>e 0 c) λf (g:Int) h=>If (g<((a.len:Nat):Int)) (Ix a.a a.len g 1 λi=>bM i h λj=>If (b==j) (d g h) (bL (g+1) λk=>f k h)) (d (-1) h)
theorem WF.o {a b c d}(e:WF.v a b c d):WF.c a b c d:=Wa Tryz.func303 (x:=WF.h) (R0 e)
def Kf.wH (l:Nat)(cap0:Addr)(U:Hp)(R:aP):Prop:=
 ly cap0 U λt4=>
 nY .i64 .b t4 U λit v=>
 XW [] (λI=>I v) λJ v1=>
 nZ .i64 .b it v1 (R v1)
  (λkey val v2=>
  nX .i64 .b it v2 λkey1 val1=>
  Hu Tryz.prog l [.int .i64 key1] v2 λmore v3=>
  If (!more) (R v3)
   (J v3))
def Wf.h:Hn:=.q .o1 (.q .o5 .l)
def Wf.v (a:Sl)(b:Fv)(c:Hp)(d:aO):Prop:=Wn.c a b c λe f=>d (decide (e≥0)) f
theorem Wf.o {a b c d}(e:Wf.v a b c d):Wf.c a b c d:=Wa Tryz.func308 (x:=Wf.h) (R0 e)
def Wn.h:Hn:=.q .o1 (.q (.q .o3 (.k (.loop [(8,.I)] (.q .o1 (.q (.c .l .l) (.q (.k (.q .o2 (.q .o6 .aJ))) .o2)))))) .aM)
def Wn.v (a:Sl)(b:Fv)(c:Hp)(d:aN):Prop:=XW [bN] (λe=>e 0 c) λf (g:Int) h=>If (g<((a.len:Nat):Int)) (Ix a.a a.len g 2 λi=>aZ i 0 h λj=>aZ i 1 h λk=>V5 Tryz.prog b [.agg #[.bool j,.bool k]] [.one .b] h λl m=>If l (d g m) (bL (g+1) λn=>f n m)) (d (-1) h)
theorem Wn.o {a b c d}(e:Wn.v a b c d):Wn.c a b c d:=Wa Tryz.func322 (x:=Wn.h) (R0 e)
end Go.Proofs
namespace Go.Bu
open Go Go.Vc Go.Proofs
variable {U:Hp}{p n sb:Nat}{S:Nat->Bool}{ms:List Nat}
theorem mG {k:Nat}{K:Int->Prop}(hk:k<=62)(hK:K ((2^k:Nat):Int)):Nn (k:Int) (Ar .i64 (1*2^(min (k:Int).toNat IntKind.i64.bits)) K):=by
 refine nn O ?_;rw[IX hk];exact cS aA (DG hk) hK
theorem tz {x k j:Nat}{K:Int->Prop}(hj:j=k)(hk:k<=62)(hx:x<=4611686018427387904)(hK:K ((x/2^k*2^k:Nat):Int)) :
 Ar .i64 (((x:Int).fdiv (2^(min (k:Int).toNat IntKind.i64.bits)))*2^(min (j:Int).toNat IntKind.i64.bits)) K:=by
 subst hj;rw[IX hk,Ef];refine cS aA ?_ hK;exact zY (yw _ _) hx
theorem BH.rN (h:BH U p n S sb ms){K:Int->Prop}(hK:K (n:Int)):gE .i64 (Addr.add ⟨p,0,none⟩ 0) U K:=fE h.LM hK
theorem BH.rB (h:BH U p n S sb ms){K:Sl->Prop}(hK:∀cap,K ⟨some ⟨sb,0,none⟩,ms.length,cap⟩):ju (Addr.add ⟨p,0,none⟩ 1) U K:=by
 obtain⟨cap,a⟩:=h.nK;rw[add_lit];exact og a (hK cap)
theorem BH.rM (h:BH U p n S sb ms){k m:Nat}(hm:ms[k]?=some m){K:Option Nat->Prop}(hK:K (some m)):Ix (some ⟨sb,0,none⟩) ms.length (k:Int) 1 λa=>ly a U K:=by
 refine ix O (by have:=(cX.1 hm).1;omega) ?_;rw[add_lit];refine Fg ?_ hK;have:=h.Lz hm;simpa using this
theorem AK (h:BH U p n S sb ms){R:aO}(hR:R true U):Yg.c (aW p) U R:=by
 refine Yg.o ?_;unfold Yg.v;refine bW.intro (cC rfl (bK (h.rN ?_)));have:=h.n1;rw[zJ O];exact hR
def Zj (n:Nat)(start aF:Int):Bool:=decide (0<=start)&&(decide (1<=aF)&&decide (aF<=n-start))
theorem Tx (h:BH U p n S sb ms)(start aF:Int){R:aN}(h0:Zj n start aF=true->R 0 U)(h1:Zj n start aF=false->R 1 U):YX.c (aW p) start aF U R:=by
 refine YX.o ?_;unfold YX.v;have a:¬(0<=start/\1<=aF/\aF<=n-start)->R 1 U:=λe=>h1 (by simp only[Zj,←ve];exact zN e);have n1:=h.n1;have n2:=h.n2;refine AK h (cB rfl (bW.intro ?_));refine cP (λh1=>bW.intro (cC rfl (bW.intro (cC rfl (cC rfl (a O)))))) λh1=>?_;refine bW.intro (cP (λb=>bW.intro (cC rfl (cC rfl (a O)))) λb=>?_);refine bK (h.rN ?_);refine bW.intro (cP (λd=>cC rfl (a O)) λd=>?_);refine bK (h.rN (ar O O ?_));refine cP (λg=>a O) λg=>h0 ?_;simp only[Zj,zF,zU];omega
theorem C4 (h:BH U p n S sb ms)(x:Nat)(hx:x<=4611686018427387904){R:Int->Int->Bool->Hp->Prop}
 (h1:∀k q,can S k q=true->x/2^k=q->R (k:Int) ((q*2^k:Nat):Int) true U) (h0:S x=false->R 0 0 false U):Xq.c (aW p) (x:Int) U R:=by
 refine Xq.o ?_;unfold Xq.v;refine bK (h.rB λcap=>?_);refine Qc (a:=bN) (λt s=>∃k:Nat,t=(k:Int)/\k<=ms.length/\s=U/\∀j,j<k->can S j (x/2^j)=false) (λt _=>ms.length-t.toNat) ⟨0,rfl,O,rfl,λj d=>O⟩ ?_;rintro t s ⟨k,rfl,w,rfl,b⟩;have y:=h.len;refine cP (λr=>?_) (λg=>?_)
 ·simp only at r;obtain⟨m,u⟩:=h.get (k:=k) O;refine h.rM u (nn O (nn O (tz rfl O hx (h.lk u rfl ?_))));cases hc:can S k (x/2^k)
  ·refine cB aA (cS (m:=k+1) O O ?_);refine⟨⟨k+1,rfl,O,rfl,λj d=>?_⟩,O⟩;by_cases e:j=k
   ·rw[e];exact hc
   ·exact b j O
  ·exact cC aA (h1 k _ hc rfl)
 ·simp only at g;refine h0 ?_;cases hs:S x
  ·rfl
  ·obtain⟨j,d⟩:=UQ h.jr hs;have:=h.fits (ZQ h.jr (ZE.1 d).1);rw[b j O]at d;cases d
def lA (S:Nat->Bool)(x:Int):Bool:=decide (0<=x)&&S x.toNat
theorem Tr (h:BH U p n S sb ms)(x:Int){R:aO}(hR:R (lA S x) U):Ys.c (aW p) x U R:=by
 refine Ys.o ?_;unfold Ys.v;have n2:=h.n2;refine AK h (bW.intro (cB rfl ?_));refine bW.intro (cP (λi=>cC rfl ?_) λi=>bK (h.rN ?_))
 ·have:lA S x=false:=by simp[lA];intro;omega
  rw[this]at hR;exact hR
 ·refine cP (λg=>?_) λg=>?_
  ·have:lA S x=false:=by
    simp only[lA];cases a:S x.toNat
    ·simp
    ·have:=h.jr _ a;omega
   rw[this]at hR;exact hR
  ·obtain⟨y,rfl⟩:=zc (show 0<=x by omega);have e:lA S (y:Int)=S y:=by simp[lA]
   rw[e]at hR;refine C4 h y O (λk q d b=>?_) λa=>?_
   ·rw[Ub d b]at hR;exact hR
   ·rw[a]at hR;exact hR
theorem NF {k q:Nat}(h:BH U p n S sb ms)(hf:q*2^k+2^k<=n)(hd:∀x,x/2^k=q->S x=false){R:aP}
 (hR:∀σ',Ext (· ∈ ms) U σ'->BH σ' p n (ins S k q) sb ms->R σ'):Zf.c (aW p) (k:Int) ((q*2^k:Nat):Int) U R:=by
 refine Zf.o ?_;unfold Zf.v;refine VO (a:=bN) (bb:=bN)
  (λo s B=>∃(j r:Nat) (T:Nat->Bool),o=(j:Int)/\s=((r*2^j:Nat):Int)/\r*2^j+2^j<=n/\BH B p n T sb ms/\Ext (· ∈ ms) U B/\(∀x,x/2^j=r->T x=false)/\ins T j r=ins S k q)
  (λo _ _=>ms.length-o.toNat) ⟨k,q,S,rfl,rfl,hf,h,Ext.refl _ _,hd,rfl⟩ ?_
 rintro o s B ⟨j,r,T,rfl,rfl,A,d,N,z,y⟩;have Y:=d.len;have V:=d.fits A;have X:=d.n2;have Q:=kJ j;obtain⟨m,C⟩:=d.get V;have w:¬full (ins T j r) (j+1) (r/2)=true->(bV (some ⟨p,0,none⟩) λG=>ju (G.add 1) B λE=>Ix E.a E.len (j:Int) 1 λL=>ly L B λH=>kG .i64 .b H ((r*2^j:Nat):Int) true B λv3=>R v3):=by
  intro g;refine bK (d.rB λcap=>d.rM C ?_);refine d.xr C z g A rfl λD e K=>hR D (N.trans e) ?_;rw[←y];exact K
 refine cS (m:=j+1) O O (bK (d.rB λcap=>bW.intro ?_));refine cP (λJ=>?_) (λM=>?_)
 ·simp only at J;refine bK (d.rB λcap=>d.rM C (mG O ?_));have P:=DG (show j<=62 by omega);have F:bits .xor .i64 ((r*2^j:Nat):Int) ((2^j:Nat):Int)=((ia r*2^j:Nat):Int):=by
   rw[Tv O O,Sn]
  rw[F];refine d.lk C rfl ?_;cases hc:can T j (ia r)
  ·refine cB aA (w (Mb z (by simp[hc])))
  ·refine cC aA ?_;refine bK (d.rB λcap=>d.rM C (mG O ?_));rw[F];refine d.rj C hc rfl λD e K=>?_;refine cS (m:=j+1) O O (nn O (cS (m:=j+1) O O (nn O ?_)));refine tz rfl O O ?_;refine cS (m:=j+1) O O ⟨⟨j+1,r/2,del T j (ia r),rfl,?_,?_,K,N.trans e,?_,?_⟩,O⟩
   ·rw[mj,←sD,KO]
   ·-- both halves lie within
    have u:=ZQ d.jr (ZE.1 hc).1;have e2:r/2*2^(j+1)=(r/2*2)*2^j:=by rw[mj,Nat.mul_comm (2^j) 2,←xf]
    rw[e2,mj];have g:(r/2*2)+1=r\/(r/2*2)+1=ia r:=by unfold ia;split<;>omega
    have W:(r/2*2)*2^j+2^j*2=((r/2*2)+1)*2^j+2^j:=by rw[zm];omega
    rw[W];rcases g with e4|e4<;>rw[e4]<;>assumption
   ·intro x F;rcases Hi.1 F with u|u
    ·simp[del,z x u]
    ·simp[del,u]
   ·rw[←y];refine sv λx=>?_;rw[VD,VD,VG,Hi];by_cases u:x/2^j=ia r
    ·simp[u,Ub hc u]
    ·simp[u]
 ·simp only at M;refine cB rfl (w λg=>?_);have:=ZQ (Ic d.jr A) g;have u:2^ms.length<=2^(j+1):=oF aB O;have:=d.hi;omega
theorem AI {a m:Nat}(h:BH U p n S sb ms)(hf:a+m<=n)(hd:∀x,a<=x->x<a+m->S x=false){R:aP}
 (hR:∀σ',Ext (· ∈ ms) U σ'->BH σ' p n (dC S a (a+m)) sb ms->R σ'):X9.c (aW p) (a:Int) (m:Int) U R:=by
 refine X9.o ?_;unfold X9.v;have P:=h.n2;refine VO (a:=bN) (bb:=bN)
  (λs c w=>∃(a' g:Nat),s=(a':Int)/\c=(g:Int)/\a<=a'/\a'+g=a+m/\BH w p n (dC S a a') sb ms/\Ext (· ∈ ms) U w)
  (λ_ c _=>c.toNat) ⟨a,m,rfl,rfl,O,rfl,by rw[Mo];exact h,Ext.refl _ _⟩ ?_
 rintro s c w ⟨a',g,rfl,rfl,z,J,G,E⟩;refine cP (λF=>?_) (λW=>?_)
 ·refine Qc (a:=bN) (λk u=>∃j q:Nat,k=(j:Int)/\a'=q*2^j/\2^j<=g/\u=w) (λk _=>12-k.toNat) ⟨0,a',rfl,by simp,by simp;omega,rfl⟩ ?_;rintro k u ⟨j,q,rfl,M,K,rfl⟩;have V:j<=10:=by
   apply Classical.byContradiction;intro hc;have:2^11<=2^j:=oF aB O;omega
  refine cS (m:=j+1) O O (nn O (cS (m:=j+1) O O (nn O ?_)));refine tz rfl O O (bW.intro ?_);have r:(Zf.c (aW p) (j:Int) (a':Int) u λv3=>
   Nn (j:Int)<|Ar .i64 (1*2^(min (j:Int).toNat IntKind.i64.bits)) λC=>Ar .i64 ((a':Int)+C) λd=>
   Nn (j:Int)<|Ar .i64 (1*2^(min (j:Int).toNat IntKind.i64.bits)) λB=>Ar .i64 ((g:Int)-B) λb=>
   (∃(a'' m'':Nat),d=(a'':Int)/\b=(m'':Int)/\a<=a''/\a''+m''=a+m/\BH v3 p n (dC S a a'') sb ms/\Ext (· ∈ ms) U v3)/\b.toNat<(g:Int).toNat):=by
   subst M;refine NF G O (λx N=>?_) λv3 e y=>?_
   ·have:=Qb.1 N;have L:=hd x O O;simp only[dC,L,xY];rw[zN (show ¬x<q*2^j by omega),tH]
   ·have A:=kJ j;refine mG O (cS (m:=q*2^j+2^j) O O (mG O (cS (m:=g-2^j) O O ?_)));refine⟨⟨_,_,rfl,rfl,O,O,?_,E.trans e⟩,O⟩;rw[PB,Sv z O]at y;exact y
  refine cO (λH=>?_) (λH=>cB rfl r);have D:a'/2^(j+1)*2^(j+1)=a':=by
   have:=zT.1 H
   exact_mod_cast this
  refine cS (m:=j+1) O O (mG O ?_);refine cP (λQ=>?_) λ_=>r;refine cS (m:=j+1) O O ⟨⟨j+1,a'/2^(j+1),rfl,D.symm,O,rfl⟩,O⟩
 ·have:g=0:=by omega
  subst this;have:a'=a+m:=by omega
  subst this;exact hR w E G
theorem Nm {a m:Nat}(h:BH U p n S sb ms)(hf:a+m<=n)(hd:∀x,a<=x->x<a+m->S x=true){R:aP}
 (hR:∀σ',Ext (· ∈ ms) U σ'->BH σ' p n (take S a (a+m)) sb ms->R σ'):Zt.c (aW p) (a:Int) (m:Int) U R:=by
 refine Zt.o ?_;unfold Zt.v;have X:=h.n2;refine Qc (a:=bN) (λs w=>∃x:Nat,s=(x:Int)/\a<=x/\BH w p n (take S a (min x (a+m))) sb ms/\Ext (· ∈ ms) U w)
  (λs _=>a+m-s.toNat) ⟨a,rfl,O,by rw[pU O,Ma];exact h,Ext.refl _ _⟩ ?_
 rintro s w ⟨x,rfl,D,b,J⟩;refine cS (m:=a+m) O O ?_;refine cP (λN=>?_) (λY=>?_)
 ·rw[pU O]at b;have V:take S a x x=true:=KI.2 ⟨hd x D O,O⟩;refine C4 b x O (λk q B Q=>?_) (λg=>by rw[V]at g;cases g);have G:=ZQ b.jr (ZE.1 B).1;have W:=b.fits G;have hl:=b.len;obtain⟨mm,K⟩:=b.get W;have P:=Qb.1 Q;refine bK (b.rB λcap=>b.rM K ?_);refine b.rj K B rfl λh1 e1 C=>?_;refine mG O (cS (m:=q*2^k+2^k) O O (cS (m:=x-q*2^k) O O ?_));refine AI C O (λy z H=>?_) λh2 e2 e=>?_
  ·have:y/2^k=q:=Qb.2 O;simp[del,this]
  ·have u:=(J.trans e1).trans e2;rw[show q*2^k+(x-q*2^k)=x by omega]at e;have j:∀y,q*2^k<=y/\y<q*2^k+2^k->S y=true/\¬(a<=y/\y<x):=λy d=>KI.1 (Ub B (Qb.2 d));refine cS (m:=a+m) O O (cP (λL=>?_) λZ=>?_)
   ·refine cS (m:=q*2^k+2^k-(a+m)) O O ?_;refine AI e O (λy z H=>?_) λh3 M r=>?_
    ·have:y/2^k=q:=Qb.2 O;have F:¬y<x:=by omega
     simp[dC,del,this,F]
    ·refine⟨⟨_,rfl,O,?_,u.trans M⟩,O⟩;rw[Nat.min_eq_right O];have:dC (dC (del (take S a x) k q) (q*2^k) x) (a+m) (a+m+(q*2^k+2^k-(a+m)))=take S a (a+m):=by
      refine sv λy=>?_;have d:=j y;simp only[Kt,VG,KI,Ne,Qb];generalize q*2^k=A at *;generalize 2^k=E at *;cases g:S y
      ·rw[g]at d;simp only[ze,false_and,false_or,iff_false,imp_false]at d ⊢;omega
      ·rw[g]at d;simp only[tI]at d ⊢;omega
     rw[this]at r;exact r
   ·refine⟨⟨_,rfl,O,?_,u⟩,O⟩;rw[pU O];have:dC (del (take S a x) k q) (q*2^k) x=take S a (q*2^k+2^k):=by
     refine sv λy=>?_;have d:=j y;simp only[Kt,VG,KI,Ne,Qb];generalize q*2^k=A at *;generalize 2^k=E at *;cases g:S y
     ·rw[g]at d;simp only[ze,false_and,false_or,iff_false,imp_false]at d ⊢;omega
     ·rw[g]at d;simp only[tI]at d ⊢;omega
    rw[this]at e;exact e
 ·rw[Nat.min_eq_right O]at b;exact hR w J b
def pO (S:Nat->Bool)(a m:Nat):Bool:=(List.range m).all λi=>!S (a+i)
theorem Vg {S:Nat->Bool}{a m:Nat}:pO S a m=true↔∀x,a<=x->x<a+m->S x=false:=by
 simp only[pO,ke,zd,mq];exact⟨λh x e b=>by have:=h (x-a) O;rwa [show a+(x-a)=x by omega]at this,λh i d=>h _ O O⟩
theorem Ot {S:Nat->Bool}{a m x:Nat}(h1:a<=x)(h2:x<a+m)(h:S x=true):pO S a m=false:=by
 cases e:pO S a m
 ·rfl
 ·rw[Vg.1 e x h1 h2]at h;cases h
def xP (n:Nat)(S:Nat->Bool)(a m:Int):Int:=if Zj n a m then(if pO S a.toNat m.toNat then 0 else 9)else 1
def QI (n:Nat)(S:Nat->Bool)(a m:Int):Nat->Bool:=if Zj n a m&&pO S a.toNat m.toNat then dC S a.toNat (a.toNat+m.toNat)else S
theorem Nu {n:Nat}{a m:Int}(h:Zj n a m=true):∃x y:Nat,a=(x:Int)/\m=(y:Int)/\1<=y/\x+y<=n:=by
 simp only[Zj,zF,zU]at h;exact⟨a.toNat,m.toNat,O,O,O,O⟩
theorem qj (h:BH U p n S sb ms)(a m:Int){R:aN}
 (hR:∀σ',Ext (· ∈ ms) U σ'->BH σ' p n (QI n S a m) sb ms->R (xP n S a m) σ'):XZ.c (aW p) a m U R:=by
 refine XZ.o ?_;unfold XZ.v;have C:=h.n2;refine Tx h a m (λd=>cB rfl ?_) (λd=>cC rfl ?_)
 ·obtain⟨x,y,rfl,rfl,G,w⟩:=Nu d;refine Qc (a:=bN) (λt s=>∃z:Nat,t=(z:Int)/\x<=z/\s=U/\∀u,x<=u->u<z->S u=false) (λt _=>x+y-t.toNat) ⟨x,rfl,O,rfl,λu _ _=>O⟩ ?_;rintro t s ⟨z,rfl,B,rfl,g⟩;refine cS (m:=x+y) O O ?_;refine cP (λF=>Tr h _ ?_) (λD=>?_)
  ·have e:lA S (z:Int)=S z:=by simp[lA]
   rw[e];cases hs:S z
   ·refine cB rfl (cS (m:=z+1) O O ⟨⟨z+1,rfl,O,rfl,λu r E=>?_⟩,O⟩);by_cases e:u=z
    ·rw[e];exact hs
    ·exact g u r O
   ·refine cC rfl ?_;have j:=Ot (m:=y) B O hs;have:=hR s (Ext.refl _ _);simp only[xP,QI,d,dD,j,tH,zS,ze,j8]at this;exact this h
  ·have b:∀u,x<=u->u<x+y->S u=false:=λu r E=>g u r O;have j:=Vg.2 b;refine AI h w b λr e1 A=>?_;have:=hR r e1;simp only[xP,QI,d,dD,j,u6,zS]at this;exact this A
 ·have:=hR U (Ext.refl _ _);simp only[xP,QI,d,uz,ze,j8]at this;exact this h
end Go.Bu
namespace Go.Ar
open Go.Bu
def uE (n:Nat)(h:Int):Bool:=decide (0<=h)&&decide (h<((n/16:Nat):Int))
def kC (st:List Nat)(h:Int):Int:=if uE st.length h then(if st.getD (16*h.toNat) 0=0 then 0 else 5)else 1
def iO (st:List Nat)(h:Int):List Nat:=if kC st h=0 then gD st (16*h.toNat) (16*h.toNat+16) 3 else st
def uo (st:List Nat)(a m:Nat)(fr:List Nat):Bool:=((st.drop a).take m).all fr.contains
def oO (st:List Nat)(a m:Int)(fr:List Nat):Int:=if Zj st.length a m then(if uo st a.toNat m.toNat fr then 0 else 5)else 1
def Uv (st:List Nat)(a m:Int)(v:Nat)(fr:List Nat):List Nat:=if oO st a m fr=0 then gD st a.toNat (a.toNat+m.toNat) v else st
def PD (st:List Nat)(h:Nat):Nat:=if tx st (16*h) (16*h+16) 1=0 then 0 else if 0<tx st (16*h) (16*h+16) 3 then 1 else 2
def TM (st:List Nat)(k:Nat):List Nat:=(List.range (st.length/16)).filter λh=>st.getD (16*h) 0 != 0&&PD st h==k
def used (st:List Nat)(h:Nat):Nat:=tx st (16*h) (16*h+16) 1
structure Sp where
 st:List Nat
 wd:Nat->Int
 pk:Nat
def Sp.set (s:Sp)(a m v:Nat):Sp:={s with st:=gD s.st a (a+m) v,wd:=λw=>if a*32<=w/\w<(a+m)*32 then 0 else s.wd w}
def fA (s:Sp)(a m:Int):Int:=if Zj s.st.length a m then(if((s.st.drop a.toNat).take m.toNat).any (· != 0)then 5 else 0)else 1
def fU (s:Sp)(a m:Int):Sp:=if fA s a m=0 then s.set a.toNat m.toNat 1 else s
def dT (s:Sp)(x:Int):Int:=if x<0\/x%8≠0 then 7 else if s.st.getD (x.toNat/256) 0=0 then 7 else 0
def nu (s:Sp)(w:Nat)(v:Int):Sp:=
 {st:=s.st.set (w/32) 2,wd:=λu=>if u=w then v else s.wd u,pk:=if s.st.getD (w/32) 0=2 then s.pk else max s.pk ((s.st.set (w/32) 2).count 2)}
def W5 (s:Sp)(x v:Int):Sp:=if dT s x=0 then nu s (x.toNat/8) v else s
end Go.Ar
namespace Go.Ar
structure Li where
 os:List Int
 lim:Nat
 low:Nat
 deriving DecidableEq
def il:Li:=⟨[],1,0⟩
structure fN (l:Li):Prop where
 low:l.low<=l.os.length
 many:l.os.length<=256
 lim:l.lim<=128
 nN:1<=l.lim
def gC (m:Nat)(l:Li):List Int×Li:=(l.os.take m,{l with os:=l.os.drop m,low:=min l.low (l.os.length-m)})
def mh (c:bZ)(l:Li):Li:=if l.lim<c.batch then{l with lim:=l.lim+1}else l
def Kh (c:bZ)(l:Li):Option Int×Li:=match l.os.getLast? with
 | none=>(none,if l.lim<c.batch then{l with lim:=l.lim+1}else{l with lim:=min (l.lim+c.batch) 128})
 | some x=>(some x,{l with os:=l.os.dropLast,low:=min l.low (l.os.length-1)})
def oM (c:bZ)(l:Li):Nat:=min l.lim c.batch
def eC (xs:List Int)(l:Li):Li:=if l.os.length+xs.length>256 then l else{l with os:=l.os++xs}
def dK (c:bZ)(x:Int)(l:Li):List Int×Li:=
 if l.os.length+1>256 then([],l)
 else if l.os.length+1<=l.lim then([],eC [x] l)
 else gC (min c.batch (l.os.length+1)) (mh c (eC [x] l))
def KU (c:bZ)(l:Li):List Int×Li:=
 ((gC ((l.low+1)/2) l).1,{os:=(gC ((l.low+1)/2) l).2.os,lim:=if l.lim>c.batch then max (l.lim-c.batch) c.batch else l.lim,low:=(gC ((l.low+1)/2) l).2.os.length})
def ZP (_:bZ)(l:Li):List Int×Li:=gC l.os.length l
abbrev Bt:=Nat×List Int
def Kg (f:bZ->Li->List Int×Li)(tb:List bZ)(ls:List Li):List Bt:=(List.range tb.length).filterMap λk=>match tb[k]?,ls[k]? with
 | some c,some l=>if(f c l).1=[]then none else some (k,(f c l).1)
 | _,_=>none
def Kc (f:bZ->Li->List Int×Li)(tb:List bZ)(ls:List Li):List Li:=List.zipWith (λc l=>(f c l).2) tb ls
def Q3 (tb:List bZ)(ls:List Li):Nat:=((tb.zip ls).map λx=>x.1.size*x.2.os.length).sum
theorem fN.nil:fN il:=⟨zD _,by decide,by decide,by decide⟩
theorem ya {m:Nat}{l:Li}(h:fN l):fN (gC m l).2:=by
 have b:=h.low;have a:=h.many;refine⟨?_,?_,h.lim,h.nN⟩
 ·simp only[gC,ka];omega
 ·simp only[gC,ka];omega
theorem FL {c:bZ}{l:Li}(hc:c.ok)(h:fN l):fN (Kh c l).2:=by
 have b:=h.low;have a:=h.many;have d:=h.lim;have e:=h.nN;unfold bZ.ok at hc;unfold Kh;split
 ·split
  ·exact⟨b,a,by simp only;omega,by simp only;omega⟩
  ·exact⟨b,a,by simp only;omega,by simp only;omega⟩
 ·exact⟨by simp only[A8];omega,by simp only[A8];omega,d,e⟩
theorem yv {xs:List Int}{l:Li}(h:fN l):fN (eC xs l):=by
 have b:=h.low;have a:=h.many;unfold eC;split
 ·exact h
 ·exact⟨by simp only[zO];omega,by simp only[zO];omega,h.lim,h.nN⟩
theorem FT {c:bZ}{l:Li}(hc:c.ok)(h:fN l):fN (mh c l):=by
 have a:=h.lim;unfold bZ.ok at hc;unfold mh;split
 ·exact⟨h.low,h.many,by simp only;omega,by simp only;omega⟩
 ·exact h
theorem OU {c:bZ}{x:Int}{l:Li}(hc:c.ok)(h:fN l):fN (dK c x l).2:=by
 unfold dK;split
 ·exact h
 ·split
  ·exact yv h
  ·exact ya (FT hc (yv h))
theorem EA {c:bZ}{l:Li}(hc:c.ok)(h:fN l):fN (KU c l).2:=by
 have a:=(ya (m:=(l.low+1)/2) h).many;have b:=h.lim;have d:=h.nN;unfold bZ.ok at hc;refine⟨zD _,a,?_,?_⟩<;>simp only[KU]<;>split<;>omega
theorem RS {c:bZ}{l:Li}(h:fN l):fN (ZP c l).2:=ya h
theorem LU (c:bZ)(hc:c.ok):KU c il=([],il):=by
 unfold bZ.ok at hc;simp[KU,il,gC];omega
theorem JJ (c:bZ):ZP c il=([],il):=by simp[ZP,il,gC]
def gI.rem (t:gI):gI:={low:=min t.low (t.bs.length-1),bs:=t.bs.dropLast}
def gI.tick (t:gI):gI:={low:=(t.bs.drop ((t.low+1)/2)).length,bs:=t.bs.drop ((t.low+1)/2)}
def gI.out (t:gI):List (List Int):=t.bs.take ((t.low+1)/2)
end Go.Ar
namespace Go.Proofs
open Go.Vc
set_option maxRecDepth 100000
def Xz.h:Hn:=.q .o1 (.q (.cQ (.seq [.op,.op,.op,.cW true 4 (RI.ops 4),.op])) .l)
def Xz.v (a:R2)(b:Hp)(c:aO):Prop:=bW (λd e=>c d e) λf=>If (!a.isNone) (bG a 0 b λh=>f h b) (f false b)
theorem Xz.o {a b c}(d:Xz.v a b c):Xz.c a b c:=Wa Tryz.func192 (x:=Xz.h) (R0 d)
def Qe.h:Hn:=.q .o1 (.q .o3 .l)
def Qe.v (a:Hp)(b:Option Addr->Hp->Prop):Prop:=aV #[.bool true,.pointer none,.pointer none,.pointer none,.pointer none,.pointer none,.pointer none,.pointer none,.pointer none,.pointer none,.pointer none,.pointer none,.pointer none,.pointer none,.pointer none,.pointer none,.pointer none] 330 a λc d=>b (some c) d
theorem Qe.o {a b}(c:Qe.v a b):Qe.c a b:=Wa Tryz.func193 (x:=Qe.h) (R0 c)
def YG.h:Hn:=.q .o1 (.q (.k (.q .o4 (.c .aM (.q (.cQ (.seq [.op,.op,.op,.cW false 2 [.op,.op],.op,.cW false 2 [.op,.op],.op,.cW false 4 (RI.ops 4),.op])) .aK)))) (.q (.q .o2 (.k (.loop [(9,.I)] (.q (.q .o5 (.c .l .l)) (.q (.k .o4) .o3))))) .aM))
def YG.v (a:R2)(b c d:Int)(e:Hp)(f:aN):Prop:=Xz.c a e λg h=>If (!g) (f 5 h) (bW (λi j=>bW (λk l=>bW (λm n=>If m (f 1 n) (XW [bN] (λo=>o b n) λp (q:Int) r=>bL (b+c) λs=>If (q<s) (Zc.c a q d r λt=>bL (q+1) λu=>p u t) (f 0 r))) λv=>If k (v true l) (bL (1024-b) λw=>v (decide (c>w)) l)) λx=>If i (x true j) (x (decide (b>1024)) j)) λy=>If (b<0) (y true h) (y (decide (c<1)) h))
theorem YG.o {a b c d e f}(g:YG.v a b c d e f):YG.c a b c d e f:=Wa Tryz.func195 (x:=YG.h) (R0 g)
def XD.h:Hn:=.q .o1 (.q .o5 .l)
def XD.v (a:R2)(b c:Int)(d:Hp)(e:aN):Prop:=YG.c a b c 0 d λf g=>e f g
theorem XD.o {a b c d e}(f:XD.v a b c d e):XD.c a b c d e:=Wa Tryz.func219 (x:=XD.h) (R0 f)
def Y7.h:Hn:=.q .o1 (.q (.q (.cQ (.seq [.op,.op,.op,.op,.cW false 2 [.op,.op],.op,.cW false 2 [.op,.op]])) .aK) (.q .o9 (.q (.q (.cQ (.seq [.op,.op,.op,.cW false 8 (RI.ops 8)])) .aK) (.q (.o 13) .l))))
def Y7.v (a:R2)(b:Int)(c:Hp)(d:aN):Prop:=Xz.c a c λe f=>bW (λg h=>bW (λi j=>If i (d 0 j) (Nz 8<|bL (b.tdiv 8) λk=>Nz 8<|bL (k.tdiv 8) λl=>bV a λm=>nU (m.add 1) 16 l 1 λn=>fW n j λo=>bW (λp q=>If p (d 0 q) (Nz 8<|bL (b.tdiv 8) λr=>Nz 8 <| bV o λs=>nU s 8 (r.tmod 8) 1 λt=>fW t q λu=>Nz 8 <| bV u λv=>nU v 8 (b.tmod 8) 1 λw=>bM w q λx=>d x q)) λy=>If o.isNone (y true j) (Nz 8<|bL (b.tdiv 8) λz=>Nz 8 <| bV o λaa=>nU aa 8 (z.tmod 8) 1 λab=>fW ab j λac=>y ac.isNone j))) λad=>If g (ad true h) (ad (decide (b≥1024)) h)) λae=>If (!e) (ae true f) (ae (decide (b<0)) f)
theorem Y7.o {a b c d}(e:Y7.v a b c d):Y7.c a b c d:=Wa Tryz.func245 (x:=Y7.h) (R0 e)
def Zc.h:Hn:=.q .o9 (.q .o8 (.q .o7 (.kA [] (.q .o5 (.c .o7 .l)) (.q .o5 (.c .o8 .l)))))
def Zc.v (a:R2)(b c:Int)(d:Hp)(e:aP):Prop:=Nz 8<|bL (b.tdiv 8) λf=>Nz 8<|bL (f.tdiv 8) λg=>bV a λh=>nU (h.add 1) 16 g 1 λi=>Ww.c (some i) d λj k=>Nz 8<|bL (b.tdiv 8) λl=>Nz 8 <| bV j λm=>nU m 8 (l.tmod 8) 1 λn=>WA.c (some n) k λo p=>Nz 8 <| bV o λq=>nU q 8 (b.tmod 8) 1 λr=>dU r (.I c) p λs=>Jn [] (λt=>bV j λu=>aY u 0 t λv=>aY u 1 t λw=>aY u 2 t λx=>aY u 3 t λy=>aY u 4 t λz=>aY u 5 t λaa=>aY u 6 t λab=>aY u 7 t λac=>If (v.isNone&&(w.isNone&&(x.isNone&&(y.isNone&&(z.isNone&&(aa.isNone&&(ab.isNone&&(ac.isNone&&true)))))))) (Nz 8<|bL (b.tdiv 8) λad=>Nz 8<|bL (ad.tdiv 8) λae=>bV a λaf=>nU (af.add 1) 16 ae 1 λag=>dU ag (.pointer none) t λah=>e ah) (e t)) λai=>bV o λaj=>aQ aj 0 s λak=>aQ aj 1 s λal=>aQ aj 2 s λam=>aQ aj 3 s λan=>aQ aj 4 s λao=>aQ aj 5 s λap=>aQ aj 6 s λaq=>aQ aj 7 s λar=>If ((ak==0)&&((al==0)&&((am==0)&&((an==0)&&((ao==0)&&((ap==0)&&((aq==0)&&((ar==0)&&true)))))))) (Nz 8<|bL (b.tdiv 8) λau=>Nz 8 <| bV j λav=>nU av 8 (au.tmod 8) 1 λaw=>dU aw (.pointer none) s λax=>ai ax) (ai s)
theorem Zc.o {a b c d e}(f:Zc.v a b c d e):Zc.c a b c d e:=Wa Tryz.func246 (x:=Zc.h) (R0 f)
def X1.h:Hn:=.q .o1 (.q (.q (.cQ (.seq [.op,.op,.op,.cW true 6 [.op,.op,.op,.cW false 2 [.op,.op]]])) .aK) (.q .o6 .l))
def X1.v (a:R2)(b c d:Int)(e:Hp)(f:aN):Prop:=Xz.c a e λg h=>bW (λi j=>If i (f 1 j) (YG.c a b c d j λk l=>f k l)) λm=>If g (bW (λn o=>m n o) λp=>If (d<1) (p true h) (p (decide (d>1073741824)) h)) (m false h)
theorem X1.o {a b c d e f}(g:X1.v a b c d e f):X1.c a b c d e f:=Wa Tryz.func256 (x:=X1.h) (R0 g)
def Ww.h:Hn:=.q .o1 (.kA [] (.q .o4 (.c .o4 .l)) (.q .o4 .l))
def Ww.v (a:R2)(b:Hp)(c:Option Addr->Hp->Prop):Prop:=Jn [] (λd=>bV a λe=>fW e d λf=>c f d) λg=>bV a λh=>fW h b λi=>If i.isNone (aV #[.pointer none,.pointer none,.pointer none,.pointer none,.pointer none,.pointer none,.pointer none,.pointer none] 359 b λj k=>bV a λl=>dU l (.pointer (some j)) k λm=>g m) (g b)
theorem Ww.o {a b c}(d:Ww.v a b c):Ww.c a b c:=Wa Tryz.func279 (x:=Ww.h) (R0 d)
def WA.h:Hn:=.q .o1 (.kA [] (.q .o4 (.c .o4 .l)) (.q .o4 .l))
def WA.v (a:R2)(b:Hp)(c:Option Addr->Hp->Prop):Prop:=Jn [] (λd=>bV a λe=>fW e d λf=>c f d) λg=>bV a λh=>fW h b λi=>If i.isNone (aV #[.I 0,.I 0,.I 0,.I 0,.I 0,.I 0,.I 0,.I 0] 363 b λj k=>bV a λl=>dU l (.pointer (some j)) k λm=>g m) (g b)
theorem WA.o {a b c}(d:WA.v a b c):WA.c a b c:=Wa Tryz.func280 (x:=WA.h) (R0 d)
end Go.Proofs
namespace Go.Ar
open Go Go.Vc Go.Proofs
open Go.Bu (Zj)
variable {U:Hp}{F:Rg}{p:Nat}{M Lf:Nat->Option Nat}{ow:Nat->Nat}
def fo {α:Type}(f:Nat->α)(k:Nat)(v:α):Nat->α:=λi=>if i=k then v else f i
theorem ZA {α:Type}(f:Nat->α)(k:Nat)(v:α):fo f k v k=v:=by simp[fo]
theorem Qj {α:Type}(f:Nat->α){k i:Nat}(v:α)(h:i≠k):fo f k v i=f i:=by simp[fo,h]
theorem Km {α:Type}(f:Nat->α)(n k:Nat)(v:α):((List.range n).map f).set k v=(List.range n).map (fo f k v):=by
 apply zr;intro i;by_cases hik:i=k
 ·subst hik;rcases kE i n with h|h
  ·rw[zM (by simpa using h)];simp[nM h,fo]
  ·rw[zW (by simpa using h),zW (by simpa using h)]
 ·rw[zj (Ne.symm hik)];simp only[zg];rcases kE i n with h|h
  ·simp[nM h,fo,hik]
  ·simp[zW (show(List.range n).length<=i by simpa using h)]
theorem Kj {α:Type}(f:Nat->α){n k:Nat}(h:k<n):((List.range n).map f)[k]?=some (f k):=by simp[nM h]
def ptr (o:Option Nat):Value:=.pointer (o.map λq=>⟨q,0,none⟩)
structure j5 (U:Hp) (F:Rg) (p:Nat) (M Lf:Nat->Option Nat) (ow:Nat->Nat):Prop where
 hd:bY U p (.bool true::(List.range 16).map λi=>ptr (M i))
 je:∀i q,i<16->M i=some q->bY U q ((List.range 8).map λj=>ptr (Lf (8*i+j)))
 lb:∀i,i<16->M i=none->∀j,j<8->Lf (8*i+j)=none
 leaf:∀k q,k<128->Lf k=some q->bY U q ((List.range 8).map λj=>.int .i64 ((ow (8*k+j):Nat):Int))
 iH:∀k,k<128->Lf k=none->∀j,j<8->ow (8*k+j)=0
 fp:F p
 fm:∀i q,i<16->M i=some q->F q/\q≠p
 fl:∀k q,k<128->Lf k=some q->F q/\q≠p
 mm:∀i j q,i<16->j<16->M i=some q->M j=some q->i=j
 ll:∀i j q,i<128->j<128->Lf i=some q->Lf j=some q->i=j
 ml:∀i k q,i<16->k<128->M i=some q->Lf k≠some q
def jf (U:Hp)(F:Rg)(p:Nat)(ow:Nat->Nat):Prop:=∃M Lf,j5 U F p M Lf ow
theorem j5.move {σ':Hp}{G:Rg}(h:j5 U F p M Lf ow)(hb:∀b,b<U.size->F b->σ'[b]?=U[b]?)(hg:∀b,b<U.size->F b->G b):j5 σ' G p M Lf ow:=by
 have j:∀{b:Nat} {cs:List Value},bY U b cs->F b->bY σ' b cs:=by
  rintro b cs ⟨e,m⟩ r;exact⟨e,(hb b (bY.lt ⟨e,m⟩) r).trans m⟩
 exact⟨j h.hd h.fp,λi q g a=>j (h.je i q g a) (h.fm i q g a).1,h.lb,λk q d a=>j (h.leaf k q d a) (h.fl k q d a).1,h.iH,hg p h.hd.lt h.fp,
  λi q g a=>⟨hg q (h.je i q g a).lt (h.fm i q g a).1,(h.fm i q g a).2⟩,λk q d a=>⟨hg q (h.leaf k q d a).lt (h.fl k q d a).1,(h.fl k q d a).2⟩,h.mm,h.ll,h.ml⟩
theorem jf.loc:dM λU F=>jf U F p ow:=λU g F G ⟨M,Lf,h⟩ i e=>⟨M,Lf,h.move (λb d a=>(e b d a).2) λb d a=>(e b d a).1⟩
theorem jf.congr {ow':Nat->Nat}(h:jf U F p ow)(he:∀x,x<1024->ow x=ow' x):jf U F p ow':=by
 obtain⟨M,Lf,h⟩:=h;refine⟨M,Lf,h.hd,h.je,h.lb,λk q a d=>?_,λk a d j b=>?_,h.fp,h.fm,h.fl,h.mm,h.ll,h.ml⟩
 ·have:=h.leaf k q a d;have e:((List.range 8).map λj=>Value.int .i64 ((ow (8*k+j):Nat):Int))=(List.range 8).map λj=>Value.int .i64 ((ow' (8*k+j):Nat):Int):=by
   apply kh;intro j b;rw[zd]at b;rw[he _ O]
  rw[←e];exact this
 ·rw[←he _ O];exact h.iH k a d j b
theorem Bo (h:jf U F p ow){R:aO}(hR:R true U):Xz.c (aW p) U R:=by
 refine Xz.o ?_;unfold Xz.v;obtain⟨M,Lf,h⟩:=h;exact bW.intro (cC rfl (bK (h.hd.rB rfl hR)))
theorem qF {a:Addr}{n i sz:Nat}{K:Addr->Prop}(hi:i<n)(hK:K (a.add (i*sz))):nU a n (i:Int) sz K:=⟨O,O,by simpa using hK⟩
theorem j5.rM (h:j5 U F p M Lf ow){i:Nat}(hi:i<16){K:Option Addr->Prop}(hK:K ((M i).map λq=>⟨q,0,none⟩)):fW ⟨p,1+i,none⟩ U K:=by
 refine h.hd.rf ?_ hK;rw[Nat.add_comm,AM,Kj _ hi];rfl
theorem j5.rL (h:j5 U F p M Lf ow){i j q:Nat}(hi:i<16)(hq:M i=some q)(hj:j<8){K:Option Addr->Prop}(hK:K ((Lf (8*i+j)).map λq=>⟨q,0,none⟩)):fW ⟨q,j,none⟩ U K:=
 (h.je i q hi hq).rf (Kj _ hj) hK
theorem j5.rN (h:j5 U F p M Lf ow){k j q:Nat}(hk:k<128)(hq:Lf k=some q)(hj:j<8){K:Int->Prop}(hK:K ((ow (8*k+j):Nat):Int)):gE .i64 ⟨q,j,none⟩ U K:=
 (h.leaf k q hk hq).uF (Kj _ hj) hK
def qz (ow:Nat->Nat)(x:Int):Nat:=if 0<=x/\x<1024 then ow x.toNat else 0
theorem LO (h:jf U F p ow)(x:Int){R:aN}(hR:R ((qz ow x:Nat):Int) U):Y7.c (aW p) x U R:=by
 refine Y7.o ?_;unfold Y7.v;have m:=h;obtain⟨M,Lf,h⟩:=h;refine Bo m (bW.intro (cB rfl (bW.intro (cP (λs=>cC rfl ?_) λs=>?_))))
 ·have:qz ow x=0:=by unfold qz;rw[zB O]
  rw[this]at hR;exact hR
 refine cP (λj=>?_) λz=>?_
 ·have:qz ow x=0:=by unfold qz;rw[zB O]
  rw[this]at hR;exact hR
 obtain⟨y,rfl⟩:=zc (show 0<=x by omega);have A:y<1024:=by omega
 have u:qz ow (y:Int)=ow y:=by unfold qz;rw[zC O];rfl
 rw[u]at hR;have d:((y:Int).tdiv 8)=((y/8:Nat):Int):=by rw[XX O];simp
 have w:(((y/8:Nat):Int).tdiv 8)=((y/8/8:Nat):Int):=by rw[XX O];simp
 have e:(((y/8:Nat):Int).tmod 8)=((y/8%8:Nat):Int):=by rw[Qq O];simp
 have i:((y:Int).tmod 8)=((y%8:Nat):Int):=by rw[Qq O];simp
 have b:8*(y/8/8)+y/8%8=y/8:=by omega
 have a:8*(y/8)+y%8=y:=by omega
 refine nz aB (cS d O (nz aB (cS w O (bK ?_))));refine qF O ?_;rw[add_lit,add_lit,zH,ni];refine h.rM O (bW.intro ?_);cases hM:M (y/8/8)with
 | none=>
  refine cC rfl (cC rfl ?_);have g:=h.lb _ O hM (y/8%8) O;rw[b]at g;have:=h.iH _ O g (y%8) O;rw[a]at this;rw[this]at hR;exact hR
 | some q=>
  refine cB rfl (nz aB (cS d O (nz aB (bK ?_))));rw[e];refine qF O ?_;rw[add_lit,zH,ni];refine h.rL O hM O ?_;rw[b];cases hL:Lf (y/8)with
  | none=>
   refine cC rfl ?_;have:=h.iH _ O hL (y%8) O;rw[a]at this;rw[this]at hR;exact hR
  | some r=>
   refine cB rfl (nz aB (cS d O (nz aB (bK ?_))));rw[e];refine qF O ?_;rw[add_lit,zH,ni];refine h.rL O hM O ?_;rw[b,hL];refine nz aB (bK ?_);rw[i];refine qF O ?_;rw[add_lit,zH,ni];refine h.rN O hL O ?_;rw[a];exact hR
theorem Oq {R:Option Addr->Hp->Prop}(hR:∀σ' p,aG U σ'->U.size<=p->jf σ' (λb=>U.size<=b) p (λ_=>0)->R (some ⟨p,0,none⟩) σ'):Qe.c U R:=by
 refine Qe.o ?_;unfold Qe.v;refine nw (cs:=[.bool true,.pointer none,.pointer none,.pointer none,.pointer none,.pointer none,.pointer none,.pointer none,.pointer none,.pointer none,.pointer none,.pointer none,.pointer none,.pointer none,.pointer none,.pointer none,.pointer none]) λv d e a=>?_;refine hR v _ e (zD _) ⟨λ_=>none,λ_=>none,a,?_,?_,?_,?_,zD _,?_,?_,?_,?_,?_⟩<;>intros<;>simp_all
theorem NV (h:j5 U F p M Lf ow){i:Nat}(hi:i<16){R:Option Addr->Hp->Prop}
 (hR:∀σ' M' q,Ext F U σ'->M' i=some q->j5 σ' (Grow F U) p M' Lf ow->R (some ⟨q,0,none⟩) σ'):Ww.c (some ⟨p,1+i,none⟩) U R:=by
 refine Ww.o ?_;unfold Ww.v;refine Jn.intro (bK (h.rM hi ?_));cases hM:M i with
 | some q=>exact cB rfl (bK (h.rM hi (by rw[hM];exact hR U M q (Ext.refl _ _) hM (h.move (λ_ _ _=>rfl) λ_ _ B=>.inl B))))
 | none=>
  refine cC rfl (nw (cs:=[.pointer none,.pointer none,.pointer none,.pointer none,.pointer none,.pointer none,.pointer none,.pointer none]) λC E e1 x=>bK ?_);have D:=h.hd.lt;refine(e1.bT h.hd id).s0 aE λz o2 r=>?_;have s:(Value.bool true::(List.range 16).map λi=>ptr (M i)).set (1+i) (.pointer (some ⟨U.size,0,none⟩))=.bool true::(List.range 16).map λj=>ptr (fo M i (some U.size) j):=by
   rw[Nat.add_comm,rZ,Km]
   congr 1
   apply kh;intro j _;simp only[fo];split<;>rfl
  rw[s]at r;have u:∀{b:Nat} {cs:List Value},bY U b cs->b≠p->bY z b cs:=λy w=>Ws o2 (e1.bT y id) w;have A:j5 z (Grow F U) p (fo M i (some U.size)) Lf ow:=by
   refine⟨r,λj q e a=>?_,λj e a=>?_,λk q d a=>u (h.leaf k q d a) (h.fl k q d a).2,h.iH,.inl h.fp,λj q e a=>?_,λk q d a=>⟨.inl (h.fl k q d a).1,(h.fl k q d a).2⟩,λj k q e d m g=>?_,h.ll,λj k q e d a=>?_⟩
   ·by_cases hji:j=i
    ·subst hji;rw[ZA]at a;cases a;have w:=h.lb j e hM;have:((List.range 8).map λk=>ptr (Lf (8*j+k)))=[.pointer none,.pointer none,.pointer none,.pointer none,.pointer none,.pointer none,.pointer none,.pointer none]:=by
      have:((List.range 8).map λk=>ptr (Lf (8*j+k)))=(List.range 8).map λ_=>Value.pointer none:=by
       apply kh;intro k d;rw[zd]at d;rw[w k d];rfl
      rw[this];rfl
     rw[this];exact Ws o2 x O
    ·rw[Qj _ _ hji]at a;exact u (h.je j q e a) (h.fm j q e a).2
   ·by_cases hji:j=i
    ·subst hji;rw[ZA]at a;cases a
    ·rw[Qj _ _ hji]at a;exact h.lb j e a
   ·by_cases hji:j=i
    ·subst hji;rw[ZA]at a;cases a;exact⟨.inr (zD _),O⟩
    ·rw[Qj _ _ hji]at a;exact⟨.inl (h.fm j q e a).1,(h.fm j q e a).2⟩
   ·by_cases hji:j=i
    ·by_cases hki:k=i
     ·omega
     ·subst hji;rw[ZA]at m;cases m;rw[Qj _ _ hki]at g;have:=(h.je k _ d g).lt;omega
    ·rw[Qj _ _ hji]at m;by_cases hki:k=i
     ·subst hki;rw[ZA]at g;cases g;have:=(h.je j _ e m).lt;omega
     ·rw[Qj _ _ hki]at g;exact h.mm j k q e d m g
   ·by_cases hji:j=i
    ·subst hji;rw[ZA]at a;cases a;intro hl;have:=(h.leaf k _ d hl).lt;omega
    ·rw[Qj _ _ hji]at a;exact h.ml j k q e d a
  refine bK (A.rM hi ?_);rw[ZA];exact hR z _ U.size (e1.to.trans (o2.ext.sub λb y=>y▸h.fp)) (ZA _ _ _) A
theorem PO (h:j5 U F p M Lf ow){i j q:Nat}(hi:i<16)(hj:j<8)(hq:M i=some q){R:Option Addr->Hp->Prop}
 (hR:∀σ' L' r,Ext F U σ'->L' (8*i+j)=some r->j5 σ' (Grow F U) p M L' ow->R (some ⟨r,0,none⟩) σ'):WA.c (some ⟨q,j,none⟩) U R:=by
 refine WA.o ?_;unfold WA.v;have S:8*i+j<128:=by omega
 refine Jn.intro (bK (h.rL hi hq hj ?_));cases hL:Lf (8*i+j)with
 | some r=>exact cB rfl (bK (h.rL hi hq hj (by rw[hL];exact hR U Lf r (Ext.refl _ _) hL (h.move (λ_ _ _=>rfl) λ_ _ E=>.inl E))))
 | none=>
  refine cC rfl (nw (cs:=[.int .i64 0,.int .i64 0,.int .i64 0,.int .i64 0,.int .i64 0,.int .i64 0,.int .i64 0,.int .i64 0]) λW X e1 K=>bK ?_);have P:=h.je i q hi hq;have V:=P.lt;have E:=h.fm i q hi hq;refine(e1.bT P id).s0 aE λN o2 y=>?_;have z:∀{b:Nat} {cs:List Value},bY U b cs->b≠q->bY N b cs:=λL J=>Ws o2 (e1.bT L id) J;have Q:j5 N (Grow F U) p M (fo Lf (8*i+j) (some U.size)) ow:=by
   refine⟨z h.hd (Ne.symm E.2),λm x g a=>?_,λm g a C H=>?_,λk r d s=>?_,λk d s=>?_,.inl h.fp,λm x g a=>⟨.inl (h.fm m x g a).1,(h.fm m x g a).2⟩,λk r d s=>?_,h.mm,λk G r B A w u=>?_,λm k x g d a=>?_⟩
   ·by_cases hii:m=i
    ·subst hii;rw[hq]at a;cases a;rw[Km]at y;have:((List.range 8).map (fo (λj=>ptr (Lf (8*m+j))) j (.pointer (some ⟨U.size,0,none⟩))))=(List.range 8).map λk=>ptr (fo Lf (8*m+j) (some U.size) (8*m+k)):=by
      apply kh;intro k _;simp only[fo];by_cases hkj:k=j
      ·subst hkj;simp[ptr]
      ·have:¬8*m+k=8*m+j:=by omega
       simp[hkj,this]
     rw[this]at y;exact y
    ·have D:x≠q:=λe=>by subst e;exact hii (h.mm m i x g hi a hq)
     have:=z (h.je m x g a) D;have e:((List.range 8).map λk=>ptr (fo Lf (8*i+j) (some U.size) (8*m+k)))=(List.range 8).map λk=>ptr (Lf (8*m+k)):=by
      apply kh;intro k d;rw[zd]at d;rw[Qj _ _ O]
     rw[e];exact this
   ·have D:m≠i:=λe=>by subst e;rw[hq]at a;cases a
    rw[Qj _ _ O];exact h.lb m g a C H
   ·by_cases hkk:k=8*i+j
    ·subst hkk;rw[ZA]at s;cases s;have J:=h.iH _ S hL;have:((List.range 8).map λC=>Value.int .i64 ((ow (8*(8*i+j)+C):Nat):Int))=[.int .i64 0,.int .i64 0,.int .i64 0,.int .i64 0,.int .i64 0,.int .i64 0,.int .i64 0,.int .i64 0]:=by
      have:((List.range 8).map λC=>Value.int .i64 ((ow (8*(8*i+j)+C):Nat):Int))=(List.range 8).map λ_=>Value.int .i64 0:=by
       apply kh;intro k d;rw[zd]at d;rw[J k d];rfl
      rw[this];rfl
     rw[this];exact Ws o2 K O
    ·rw[Qj _ _ hkk]at s;exact z (h.leaf k r d s) λe=>by subst e;exact h.ml i k r hi d hq s
   ·by_cases hkk:k=8*i+j
    ·subst hkk;rw[ZA]at s;cases s
    ·rw[Qj _ _ hkk]at s;exact h.iH k d s
   ·by_cases hkk:k=8*i+j
    ·subst hkk;rw[ZA]at s;cases s;have:=h.hd.lt;exact⟨.inr (zD _),O⟩
    ·rw[Qj _ _ hkk]at s;exact⟨.inl (h.fl k r d s).1,(h.fl k r d s).2⟩
   ·by_cases e1':k=8*i+j
    ·by_cases e2':G=8*i+j
     ·omega
     ·subst e1';rw[ZA]at w;cases w;rw[Qj _ _ e2']at u;have:=(h.leaf G _ A u).lt;omega
    ·rw[Qj _ _ e1']at w;by_cases e2':G=8*i+j
     ·subst e2';rw[ZA]at u;cases u;have:=(h.leaf k _ B w).lt;omega
     ·rw[Qj _ _ e2']at u;exact h.ll k G r B A w u
   ·by_cases hkk:k=8*i+j
    ·subst hkk;rw[ZA];intro e;cases e;have:=(h.je m _ g a).lt;omega
    ·rw[Qj _ _ hkk];exact h.ml m k x g d a
  refine bK (Q.rL hi hq hj ?_);rw[ZA];exact hR N _ U.size (e1.to.trans (o2.ext.sub λb L=>L▸E.1)) (ZA _ _ _) Q
theorem NJ (h:j5 U F p M Lf ow){k r j no:Nat}(hk:k<128)(hr:Lf k=some r)(hj:j<8){σ':Hp}(ho:QB U σ' r)(hb:bY σ' r (((List.range 8).map λj=>Value.int .i64 ((ow (8*k+j):Nat):Int)).set j (.int .i64 (no:Int)))) :
 j5 σ' F p M Lf (fo ow (8*k+j) no):=by
 refine⟨Ws ho h.hd (Ne.symm (h.fl k r hk hr).2),λi q x y=>Ws ho (h.je i q x y) λe=>by subst e;exact h.ml i k q x hk y hr,h.lb,λd w g b=>?_,λd g b s u=>?_,h.fp,h.fm,h.fl,h.mm,h.ll,h.ml⟩
 ·by_cases hkk:d=k
  ·subst hkk;rw[hr]at b;cases b;rw[Km]at hb;have:((List.range 8).map (fo (λj=>Value.int .i64 ((ow (8*d+j):Nat):Int)) j (.int .i64 (no:Int))))=(List.range 8).map λs=>Value.int .i64 ((fo ow (8*d+j) no (8*d+s):Nat):Int):=by
    apply kh;intro a _;simp only[fo];by_cases haj:a=j
    ·subst haj;simp
    ·have:¬8*d+a=8*d+j:=by omega
     simp[haj,this]
   rw[this]at hb;exact hb
  ·have m:w≠r:=λe=>by subst e;exact hkk (h.ll d k w g hk b hr)
   have:=Ws ho (h.leaf d w g b) m;have e:((List.range 8).map λa=>Value.int .i64 ((fo ow (8*k+j) no (8*d+a):Nat):Int))=(List.range 8).map λa=>Value.int .i64 ((ow (8*d+a):Nat):Int):=by
    apply kh;intro a ha;rw[zd]at ha;rw[Qj _ _ O]
   rw[e];exact this
 ·have m:d≠k:=λe=>by subst e;rw[hr]at b;cases b
  rw[Qj _ _ O];exact h.iH d g b s u
theorem Mv (h:j5 U F p M Lf ow){i j q:Nat}(hi:i<16)(hj:j<8)(hq:M i=some q)(hz:∀a,a<8->ow (8*(8*i+j)+a)=0){σ':Hp}(ho:QB U σ' q)(hb:bY σ' q (((List.range 8).map λj=>ptr (Lf (8*i+j))).set j (.pointer none))) :
 j5 σ' F p M (fo Lf (8*i+j) none) ow:=by
 have G:=h.fm i q hi hq;refine⟨Ws ho h.hd (Ne.symm G.2),λd y m b=>?_,λd m b E A=>?_,λk r x g=>?_,λk x g=>?_,h.fp,h.fm,λk r x g=>?_,h.mm,λk D r B z u s=>?_,λd k y m w b=>?_⟩
 ·by_cases hii:d=i
  ·subst hii;rw[hq]at b;cases b;rw[Km]at hb;have:((List.range 8).map (fo (λj=>ptr (Lf (8*d+j))) j (.pointer none)))=(List.range 8).map λk=>ptr (fo Lf (8*d+j) none (8*d+k)):=by
    apply kh;intro k _;simp only[fo];by_cases hkj:k=j
    ·subst hkj;simp[ptr]
    ·have:¬8*d+k=8*d+j:=by omega
     simp[hkj,this]
   rw[this]at hb;exact hb
  ·have C:y≠q:=λe=>by subst e;exact hii (h.mm d i y m hi b hq)
   have:=Ws ho (h.je d y m b) C;have e:((List.range 8).map λk=>ptr (fo Lf (8*i+j) none (8*d+k)))=(List.range 8).map λk=>ptr (Lf (8*d+k)):=by
    apply kh;intro k w;rw[zd]at w;rw[Qj _ _ O]
   rw[e];exact this
 ·simp only[fo];split
  ·rfl
  ·exact h.lb d m b E A
 ·by_cases hkk:k=8*i+j
  ·subst hkk;rw[ZA]at g;cases g
  ·rw[Qj _ _ hkk]at g;exact Ws ho (h.leaf k r x g) λe=>by subst e;exact h.ml i k r hi x hq g
 ·by_cases hkk:k=8*i+j
  ·subst hkk;exact hz
  ·rw[Qj _ _ hkk]at g;exact h.iH k x g
 ·by_cases hkk:k=8*i+j
  ·subst hkk;rw[ZA]at g;cases g
  ·rw[Qj _ _ hkk]at g;exact h.fl k r x g
 ·by_cases e1':k=8*i+j
  ·subst e1';rw[ZA]at u;cases u
  ·rw[Qj _ _ e1']at u;by_cases e2':D=8*i+j
   ·subst e2';rw[ZA]at s;cases s
   ·rw[Qj _ _ e2']at s;exact h.ll k D r B z u s
 ·by_cases hkk:k=8*i+j
  ·subst hkk;rw[ZA];intro e;cases e
  ·rw[Qj _ _ hkk];exact h.ml d k y m w b
theorem SG (h:j5 U F p M Lf ow){i:Nat}(hi:i<16)(hz:∀j,j<8->Lf (8*i+j)=none){σ':Hp}(ho:QB U σ' p)(hb:bY σ' p ((Value.bool true::(List.range 16).map λi=>ptr (M i)).set (1+i) (.pointer none))) :
 j5 σ' F p (fo M i none) Lf ow:=by
 have m:(Value.bool true::(List.range 16).map λi=>ptr (M i)).set (1+i) (.pointer none)=.bool true::(List.range 16).map λj=>ptr (fo M i none j):=by
  rw[Nat.add_comm,rZ,Km]
  congr 1
  apply kh;intro j _;simp only[fo];split<;>rfl
 rw[m]at hb;have g:∀{j q},fo M i none j=some q->M j=some q:=λ{j q} d=>by
  by_cases hji:j=i
  ·subst hji;rw[ZA]at d;cases d
  ·rwa [Qj _ _ hji]at d
 refine⟨hb,λj q e d=>Ws ho (h.je j q e (g d)) (h.fm j q e (g d)).2,λj e d=>?_,λk q r d=>Ws ho (h.leaf k q r d) (h.fl k q r d).2,h.iH,h.fp,λj q e d=>h.fm j q e (g d),h.fl,λa b q s hb w u=>h.mm a b q s hb (g w) (g u),h.ll,λa k q s r d=>h.ml a k q s r (g d)⟩;by_cases hji:j=i
 ·subst hji;exact hz
 ·rw[Qj _ _ hji]at d;exact h.lb j e d
theorem Si (h:jf U F p ow){x no:Nat}(hx:x<1024){R:aP}(hR:∀σ',Ext F U σ'->jf σ' (Grow F U) p (fo ow x no)->R σ'):Zc.c (aW p) (x:Int) (no:Int) U R:=by
 refine Zc.o ?_;unfold Zc.v;obtain⟨M,Lf,h⟩:=h;have P:((x:Int).tdiv 8)=((x/8:Nat):Int):=by rw[XX O];simp
 have t2:(((x/8:Nat):Int).tdiv 8)=((x/8/8:Nat):Int):=by rw[XX O];simp
 have t3:(((x/8:Nat):Int).tmod 8)=((x/8%8:Nat):Int):=by rw[Qq O];simp
 have t4:((x:Int).tmod 8)=((x%8:Nat):Int):=by rw[Qq O];simp
 have hk:8*(x/8/8)+x/8%8=x/8:=by omega
 have aa:8*(x/8)+x%8=x:=by omega
 refine nz aB (cS P O (nz aB (cS t2 O (bK ?_))));refine qF O ?_;rw[add_lit,add_lit,zH,ni];refine NV h O λv1 M1 q e1 J h1=>?_;refine nz aB (cS P O (nz aB (bK ?_)));rw[t3];refine qF O ?_;rw[add_lit,zH,ni];refine PO h1 O O J λv2 L2 r e2 N V=>?_;rw[hk]at N;have Y:Ext F U v2:=e1.jt e2;refine nz aB (bK ?_);rw[t4];refine qF O ?_;rw[add_lit,zH,ni];have u:x/8<128:=by omega
 refine(V.leaf _ r u N).s0 aE λv3 o3 b3=>?_;have A:=NJ V u N O o3 b3;rw[aa]at A;have a:∀b,Grow (Grow F U) v1 b->Grow F U b:=λb s=>by
  rcases s with h|h
  ·exact h
  ·exact .inr (zY e1.1 h)
 have C:Ext F U v3:=Y.dW o3.ext λb s=>by subst s;exact a _ (V.fl _ _ u N).1
 have y:∀v L4,Ext F U v->j5 v (Grow (Grow F U) v1) p M1 L4 (fo ow x no) →
  (bV (some ⟨q,0,none⟩) λd=>fW (d.add 0) v λQ=>fW (d.add 1) v λE=>fW (d.add 2) v λK=>fW (d.add 3) v λB=>fW (d.add 4) v λD=>fW (d.add 5) v λL=>fW (d.add 6) v λH=>fW (d.add 7) v λG=>
   If (Q.isNone&&(E.isNone&&(K.isNone&&(B.isNone&&(D.isNone&&(L.isNone&&(H.isNone&&(G.isNone&&true)))))))) (Nz 8<|Ar .i64 ((x:Int).tdiv 8) λS=>Nz 8<|Ar .i64 (S.tdiv 8) λt48=>bV (some ⟨p,0,none⟩) λab=>nU (ab.add 1) 16 t48 1 λX=>dU X (.pointer none) v λv4=>R v4) (R v)):=by
  intro v L4 ev h4;have m:=h4.je _ q O J;have g:∀j,j<8->((List.range 8).map λj=>ptr (L4 (8*(x/8/8)+j)))[0+j]?=some (.pointer ((L4 (8*(x/8/8)+j)).map λq=>⟨q,0,none⟩)):=λj z=>by rw[zH,Kj _ z];rfl
  refine bK (m.rP (g 0 O) (m.rP (g 1 O) (m.rP (g 2 O) (m.rP (g 3 O) (m.rP (g 4 O) (m.rP (g 5 O) (m.rP (g 6 O) (m.rP (g 7 O) ?_))))))));have fin:∀w,Ext F U w->jf w (Grow (Grow F U) v1) p (fo ow x no)->R w:=λw ew hw=>hR w ew (jf.loc.mono hw λb _ s=>a b s);refine cO (λi=>?_) λ_=>fin v ev ⟨_,_,h4⟩;have hz:∀j,j<8->L4 (8*(x/8/8)+j)=none:=by
   simp only[Option.isNone_map,u6,zF,Option.isNone_iff_eq_none]at i;intro j z;obtain⟨a0,a1,a2,Z,a4,a5,W,a7⟩:=i
   match j,z with
   | 0,_=>exact a0
   | 1,_=>exact a1
   | 2,_=>exact a2
   | 3,_=>exact Z
   | 4,_=>exact a4
   | 5,_=>exact a5
   | 6,_=>exact W
   | 7,_=>exact a7
  refine nz aB (cS P O (nz aB (cS t2 O (bK ?_))));refine qF O ?_;rw[add_lit,add_lit,zH,ni];refine h4.hd.s0 aE λv4 o4 b4=>fin v4 (ev.dW o4.ext λb s=>by subst s;exact a _ h4.fp) ⟨_,_,SG h4 O hz o4 b4⟩
 refine Jn.intro (bK ?_);have e:=A.leaf _ r u N;have g:∀j,j<8->((List.range 8).map λj=>Value.int .i64 ((fo ow x no (8*(x/8)+j):Nat):Int))[0+j]?=some (.int .i64 ((fo ow x no (8*(x/8)+j):Nat):Int)):=λj z=>by rw[zH,Kj _ z]
 refine e.rI (g 0 O) (e.rI (g 1 O) (e.rI (g 2 O) (e.rI (g 3 O) (e.rI (g 4 O) (e.rI (g 5 O) (e.rI (g 6 O) (e.rI (g 7 O) ?_)))))));refine cO (λi=>?_) λ_=>y v3 L2 C A;have hz:∀j,j<8->fo ow x no (8*(8*(x/8/8)+x/8%8)+j)=0:=by
  rw[hk];simp only[tu,u6,zF,zT]at i;intro j z;obtain⟨a0,a1,a2,Z,a4,a5,W,a7⟩:=i
  match j,z with
  | 0,_=>exact a0
  | 1,_=>exact a1
  | 2,_=>exact a2
  | 3,_=>exact Z
  | 4,_=>exact a4
  | 5,_=>exact a5
  | 6,_=>exact W
  | 7,_=>exact a7
 refine nz aB (cS P O (nz aB (bK ?_)));rw[t3];refine qF O ?_;rw[add_lit,zH,ni];have m:=A.je _ q O J;refine m.s0 aE λv5 o5 b5=>?_;exact y v5 _ (C.dW o5.ext λb s=>by subst s;exact a _ (A.fm _ _ O J).1) (Mv A O O J hz o5 b5)
def jH (ow:Nat->Nat)(a m no:Nat):Nat->Nat:=if Zj 1024 a m then λp=>if a<=p/\p<a+m then no else ow p else ow
def uQ (a m:Int):Int:=if Zj 1024 a m then 0 else 1
theorem C7 (h:jf U F p ow)(a m:Int)(ha : -1000000000000<=a)(ha2:a<=1000000000000)(no:Nat){R:aN}(h1:Zj 1024 a m=false->R 1 U)
 (hR:∀x y:Nat,a=x->m=y->1<=y->x+y<=1024->∀σ',Ext F U σ'->jf σ' (Grow F U) p (jH ow x y no)->R 0 σ'):YG.c (aW p) a m (no:Int) U R:=by
 refine YG.o ?_;unfold YG.v;have d:¬(0<=a/\1<=m/\m<=1024-a)->R 1 U:=λw=>h1 (by simp only[Zj,←ve];exact zN w);refine Bo h (cB rfl (bW.intro (cP (λs=>bW.intro (cC rfl (bW.intro (cC rfl (cC rfl (d O)))))) λs=>?_)));refine bW.intro (cP (λC=>bW.intro (cC rfl (cC rfl (d O)))) λC=>?_);refine bW.intro (cP (λu=>cC rfl (d O)) λu=>ar O O (cP (λA=>d O) λA=>?_));obtain⟨x,rfl⟩:=zc (show 0<=a by omega);obtain⟨y,rfl⟩:=zc (show 0<=m by omega);have g:Zj 1024 (x:Int) (y:Int)=true:=by simp only[Zj,zF,zU];omega
 refine Qc (a:=bN) (λ(t:Int) v=>∃i:Nat,t=((x+i:Nat):Int)/\i<=y/\Ext F U v/\jf v (Grow F U) p (λz=>if x<=z/\z<x+i then no else ow z)) (λt _=>x+y-t.toNat) ⟨0,rfl,O,Ext.refl _ _,?_⟩ ?_
 ·have:(λz=>if x<=z/\z<x+0 then no else ow z)=ow:=by
   funext z;rw[zB O]
  rw[this];exact jf.loc.mono h λb _ j=>.inl j
 rintro t v ⟨i,rfl,K,e,r⟩;refine cS (m:=x+y) O O (cP (λE=>?_) λB=>?_)
 ·refine Si r O λJ D G=>cS (m:=x+(i+1)) O O ⟨⟨i+1,rfl,O,e.jt D,?_⟩,O⟩;refine jf.congr (jf.loc.mono G λb _ j=>?_) λz H=>?_
  ·rcases j with h|h
   ·exact h
   ·exact .inr (zY e.1 h)
  ·simp only[fo];by_cases hzi:z=x+i
   ·subst hzi;rw[zC rfl,zC O]
   ·rw[zB hzi];by_cases hin:x<=z/\z<x+i
    ·rw[zC hin,zC O]
    ·rw[zB hin,zB O]
 ·have:i=y:=by omega
  subst this;refine hR x i rfl rfl O O v e ?_;unfold jH;rw[g];exact r
theorem M4 (h:jf U F p ow)(a m:Nat)(ha:a<=1000000){no:Nat}(hno:1<=no)(hno2:no<=1000){R:aN}(hR:∀σ',Ext F U σ'->jf σ' (Grow F U) p (jH ow a m no)->R (uQ a m) σ'):X1.c (aW p) a m (no:Int) U R:=by
 refine X1.o ?_;unfold X1.v;refine Bo h (bW.intro (cC rfl (bW.intro (fT O (fT O ?_)))));refine C7 h a m O O no (λj=>?_) λx y z w A u σ' e s=>?_
 ·have:=hR U (Ext.refl _ _) (by unfold jH;rw[j];exact jf.loc.mono h λb _ r=>.inl r);unfold uQ at this;rw[j]at this;exact this
 ·have i:a=x:=by omega
  have d:m=y:=by omega
  subst i;subst d;have g:Zj 1024 (a:Int) (m:Int)=true:=by simp only[Zj,zF,zU];omega
  have:=hR σ' e s;unfold uQ at this;rw[g]at this;exact this
theorem Pk (h:jf U F p ow)(a m:Nat)(ha:a<=1000000){R:aN}(hR:∀σ',Ext F U σ'->jf σ' (Grow F U) p (jH ow a m 0)->R (uQ a m) σ'):XD.c (aW p) a m U R:=by
 refine XD.o ?_;unfold XD.v;refine C7 h a m O O 0 (λj=>?_) λx y z w A u σ' e s=>?_
 ·have:=hR U (Ext.refl _ _) (by unfold jH;rw[j];exact jf.loc.mono h λb _ r=>.inl r);unfold uQ at this;rw[j]at this;exact this
 ·have i:a=x:=by omega
  have d:m=y:=by omega
  subst i;subst d;have g:Zj 1024 (a:Int) (m:Int)=true:=by simp only[Zj,zF,zU];omega
  have:=hR σ' e s;unfold uQ at this;rw[g]at this;exact this
end Go.Ar
namespace Go.Proofs
open Go.Shelf
def Tryz.iB:Go.Shelf.Ren:=⟨fun|7=>285|10=>307|n=>n,fun|23=>72|26=>3|3=>4|28=>98|0=>0|27=>97|33=>142|4=>4|n=>n,fun|n=>n⟩
theorem Tryz.mT:Go.Proofs.SlLaysZI.n7 Tryz.prog Tryz.iB:={
 mixed:=by kernel_rfl
 f7:=⟨Tryz.f285.name,by decide,Tryz.func285.trans (congrArg some (by kernel_rfl))⟩
 f10:=⟨Tryz.f307.name,by decide,Tryz.func307.trans (congrArg some (by kernel_rfl))⟩
 t0:=Tryz.underlying0
 a0:=Tryz.isAgg0
 z0:=Tryz.sizeOf0
 v0:=Tryz.zeroValue0
 t4:=Tryz.underlying4
 a4:=Tryz.isAgg4
 z4:=Tryz.sizeOf4
 v4:=Tryz.zeroValue4
 t23:=Tryz.underlying72
 a23:=Tryz.isAgg72
 z23:=Tryz.sizeOf72
 v23:=Tryz.zeroValue72
 t26:=Tryz.underlying3
 a26:=Tryz.isAgg3
 z26:=Tryz.sizeOf3
 v26:=Tryz.zeroValue3
 t27:=Tryz.underlying97
 a27:=Tryz.isAgg97
 z27:=Tryz.sizeOf97
 v27:=Tryz.zeroValue97
 t28:=Tryz.underlying98
 a28:=Tryz.isAgg98
 z28:=Tryz.sizeOf98
 v28:=Tryz.zeroValue98
 t33:=Tryz.underlying142
 a33:=Tryz.isAgg142
 z33:=Tryz.sizeOf142
 v33:=Tryz.zeroValue142}
def Tryz.jz:Go.Shelf.Ren:=⟨fun|6=>50|8=>84|9=>54|11=>118|13=>87|12=>86|23=>128|24=>129|14=>119|15=>120|16=>121|17=>122|18=>123|19=>124|20=>125|21=>126|22=>127|25=>184|26=>185|27=>186|28=>187|29=>188|30=>189|31=>244|n=>n,fun|26=>3|28=>98|24=>34|0=>0|3=>3|37=>145|48=>196|50=>55|4=>4|40=>188|39=>187|45=>193|5=>5|9=>9|51=>271|55=>275|57=>324|58=>325|33=>142|n=>n,fun|n=>n⟩
theorem Tryz.m8:Go.Proofs.SlLaysZI.n6 Tryz.prog Tryz.jz:={
 mixed:=by kernel_rfl
 f6:=⟨Tryz.f50.name,by decide,Tryz.func50.trans (congrArg some (by kernel_rfl))⟩
 f8:=⟨Tryz.f84.name,by decide,Tryz.func84.trans (congrArg some (by kernel_rfl))⟩
 f11:=⟨Tryz.f118.name,by decide,Tryz.func118.trans (congrArg some (by kernel_rfl))⟩
 t0:=Tryz.underlying0
 a0:=Tryz.isAgg0
 z0:=Tryz.sizeOf0
 v0:=Tryz.zeroValue0
 t24:=Tryz.underlying34
 a24:=Tryz.isAgg34
 z24:=Tryz.sizeOf34
 v24:=Tryz.zeroValue34
 t26:=Tryz.underlying3
 a26:=Tryz.isAgg3
 z26:=Tryz.sizeOf3
 v26:=Tryz.zeroValue3
 t28:=Tryz.underlying98
 a28:=Tryz.isAgg98
 z28:=Tryz.sizeOf98
 v28:=Tryz.zeroValue98
 i26:=by kernel_rfl}
def Tryz.ny:Go.Shelf.Ren:=⟨fun|8=>84|11=>118|n=>n,fun|26=>3|28=>98|24=>34|0=>0|33=>142|4=>4|n=>n,fun|n=>n⟩
theorem Tryz.wA:Go.Proofs.SlLaysZI.n8 Tryz.prog Tryz.ny:={
 mixed:=by kernel_rfl
 f8:=⟨Tryz.f84.name,by decide,Tryz.func84.trans (congrArg some (by kernel_rfl))⟩
 f11:=⟨Tryz.f118.name,by decide,Tryz.func118.trans (congrArg some (by kernel_rfl))⟩
 t0:=Tryz.underlying0
 a0:=Tryz.isAgg0
 z0:=Tryz.sizeOf0
 v0:=Tryz.zeroValue0
 t24:=Tryz.underlying34
 a24:=Tryz.isAgg34
 z24:=Tryz.sizeOf34
 v24:=Tryz.zeroValue34
 t26:=Tryz.underlying3
 a26:=Tryz.isAgg3
 z26:=Tryz.sizeOf3
 v26:=Tryz.zeroValue3
 t28:=Tryz.underlying98
 a28:=Tryz.isAgg98
 z28:=Tryz.sizeOf98
 v28:=Tryz.zeroValue98
 i26:=by kernel_rfl}
def Tryz.np:Go.Shelf.Ren:=⟨fun|5=>54|8=>87|7=>86|19=>128|20=>129|10=>119|11=>120|12=>121|13=>122|14=>123|15=>124|16=>125|17=>126|18=>127|30=>184|31=>185|32=>186|33=>187|34=>188|35=>189|40=>244|n=>n,fun|23=>34|25=>3|3=>3|32=>145|22=>34|0=>0|44=>196|46=>55|4=>4|36=>188|35=>187|41=>193|5=>5|9=>9|53=>271|57=>275|63=>324|64=>325|n=>n,fun|n=>n⟩
theorem Tryz.kR:Go.Proofs.SlLaysM.n5 Tryz.prog Tryz.np:={
 mixed:=by kernel_rfl
 f5:=⟨Tryz.f54.name,by decide,Tryz.func54.trans (congrArg some (by kernel_rfl))⟩
 f7:=⟨Tryz.f86.name,by decide,Tryz.func86.trans (congrArg some (by kernel_rfl))⟩
 f8:=Tryz.func87.trans (congrArg some (by kernel_rfl))
 f10:=⟨Tryz.f119.name,by decide,Tryz.func119.trans (congrArg some (by kernel_rfl))⟩
 f11:=⟨Tryz.f120.name,by decide,Tryz.func120.trans (congrArg some (by kernel_rfl))⟩
 f12:=⟨Tryz.f121.name,by decide,Tryz.func121.trans (congrArg some (by kernel_rfl))⟩
 f13:=⟨Tryz.f122.name,by decide,Tryz.func122.trans (congrArg some (by kernel_rfl))⟩
 f14:=⟨Tryz.f123.name,by decide,Tryz.func123.trans (congrArg some (by kernel_rfl))⟩
 f15:=⟨Tryz.f124.name,by decide,Tryz.func124.trans (congrArg some (by kernel_rfl))⟩
 f16:=⟨Tryz.f125.name,by decide,Tryz.func125.trans (congrArg some (by kernel_rfl))⟩
 f17:=⟨Tryz.f126.name,by decide,Tryz.func126.trans (congrArg some (by kernel_rfl))⟩
 f18:=⟨Tryz.f127.name,by decide,Tryz.func127.trans (congrArg some (by kernel_rfl))⟩
 f19:=Tryz.func128.trans (congrArg some (by kernel_rfl))
 f20:=Tryz.func129.trans (congrArg some (by kernel_rfl))
 f30:=⟨Tryz.f184.name,by decide,Tryz.func184.trans (congrArg some (by kernel_rfl))⟩
 f31:=Tryz.func185.trans (congrArg some (by kernel_rfl))
 f32:=Tryz.func186.trans (congrArg some (by kernel_rfl))
 f33:=⟨Tryz.f187.name,by decide,Tryz.func187.trans (congrArg some (by kernel_rfl))⟩
 f34:=⟨Tryz.f188.name,by decide,Tryz.func188.trans (congrArg some (by kernel_rfl))⟩
 f35:=⟨Tryz.f189.name,by decide,Tryz.func189.trans (congrArg some (by kernel_rfl))⟩
 f40:=⟨Tryz.f244.name,by decide,Tryz.func244.trans (congrArg some (by kernel_rfl))⟩
 t0:=Tryz.underlying0
 a0:=Tryz.isAgg0
 z0:=Tryz.sizeOf0
 v0:=Tryz.zeroValue0
 t3:=Tryz.underlying3
 a3:=Tryz.isAgg3
 z3:=Tryz.sizeOf3
 v3:=Tryz.zeroValue3
 t4:=Tryz.underlying4
 a4:=Tryz.isAgg4
 z4:=Tryz.sizeOf4
 v4:=Tryz.zeroValue4
 t5:=Tryz.underlying5
 a5:=Tryz.isAgg5
 z5:=Tryz.sizeOf5
 v5:=Tryz.zeroValue5
 t9:=Tryz.underlying9
 a9:=Tryz.isAgg9
 z9:=Tryz.sizeOf9
 v9:=Tryz.zeroValue9
 t22:=Tryz.underlying34
 a22:=Tryz.isAgg34
 z22:=Tryz.sizeOf34
 v22:=Tryz.zeroValue34
 t23:=Tryz.underlying34
 a23:=Tryz.isAgg34
 z23:=Tryz.sizeOf34
 v23:=Tryz.zeroValue34
 t25:=Tryz.underlying3
 a25:=Tryz.isAgg3
 z25:=Tryz.sizeOf3
 v25:=Tryz.zeroValue3
 t32:=Tryz.underlying145
 a32:=Tryz.isAgg145
 z32:=Tryz.sizeOf145
 v32:=Tryz.zeroValue145
 t35:=Tryz.underlying187
 a35:=Tryz.isAgg187
 z35:=Tryz.sizeOf187
 v35:=Tryz.zeroValue187
 t36:=Tryz.underlying188
 a36:=Tryz.isAgg188
 z36:=Tryz.sizeOf188
 v36:=Tryz.zeroValue188
 t41:=Tryz.underlying193
 a41:=Tryz.isAgg193
 z41:=Tryz.sizeOf193
 v41:=Tryz.zeroValue193
 t44:=Tryz.underlying196
 a44:=Tryz.isAgg196
 z44:=Tryz.sizeOf196
 v44:=Tryz.zeroValue196
 t46:=Tryz.underlying55
 a46:=Tryz.isAgg55
 z46:=Tryz.sizeOf55
 v46:=Tryz.zeroValue55
 t53:=Tryz.underlying271
 a53:=Tryz.isAgg271
 z53:=Tryz.sizeOf271
 v53:=Tryz.zeroValue271
 t57:=Tryz.underlying275
 a57:=Tryz.isAgg275
 z57:=Tryz.sizeOf275
 v57:=Tryz.zeroValue275
 t63:=Tryz.underlying324
 a63:=Tryz.isAgg324
 z63:=Tryz.sizeOf324
 v63:=Tryz.zeroValue324
 t64:=Tryz.underlying325
 a64:=Tryz.isAgg325
 z64:=Tryz.sizeOf325
 v64:=Tryz.zeroValue325}
end Go.Proofs
namespace Go.Bu
open Go Go.Vc Go.Proofs Go.RowKit Go.Maps Go.Sort Go.Shelf
variable {U:Hp}
def lN (B:Nat)(h:Hp)(s:Sl)(xs:List Value):Prop:=
 s.len=xs.length/\(xs=[]/\s.a=none\/∃b cs,B<=b/\s.a=some ⟨b,0,none⟩/\bY h b cs/\∀j,j<xs.length->cs[j]?=xs[j]?)
theorem lN.bS {B:Nat}{h h':Hp}{s:Sl}{xs:List Value}{F:Nat->Prop}(hs:lN B h s xs)(e:Ext F h h')(hF:∀b,F b->b<B):lN B h' s xs:=by
 refine⟨hs.1,hs.2.imp id ?_⟩;rintro⟨b,cs,hb,ha,hk,hc⟩;exact⟨b,cs,hb,ha,e.bT hk (λa=>by have:=hF b a;omega),hc⟩
theorem lN.mono {B B':Nat}{h:Hp}{s:Sl}{xs:List Value}(hs:lN B h s xs)(hB:B'<=B):lN B' h s xs:=by
 refine⟨hs.1,hs.2.imp id ?_⟩;rintro⟨b,cs,hb,ha,hk,hc⟩;exact⟨b,cs,O,ha,hk,hc⟩
theorem lN.mI {B:Nat}{h:Hp}{s:Sl}{xs:List Int}(hs:lN B h s (xs.map (Value.int .i64))){i:Nat}{x:Int}(hx:xs[i]?=some x){K:Int->Prop}(hK:K x) :
 Ix s.a s.len (i:Int) 1 λa=>gE .i64 a h K:=by
 have d:i<xs.length:=(cX.1 hx).1;rcases hs.2 with⟨h0,_⟩|⟨b,cs,_,ha,hb,hc⟩
 ·simp at h0;subst h0;simp at d
 ·rw[ha];refine ix O (by rw[hs.1];simp;omega) ?_;rw[add_lit];refine nR ?_ hK;rw[hb.cell];have:=hc i (by simpa using d);simpa[hx]using this
theorem Vd {w w':World}(h:Below w.heap.size w w'):aG w.heap w'.heap:=⟨h.size,λb a _=>h.block b a⟩
theorem UJ {n:Nat}{w w':World}(h:Below n w w'):Xd w w':=⟨h.os,h.tape,h.output,h.size⟩
def uV:Nat:=Tryz.iB.f 10
def DB:Nat:=Tryz.iB.t 23
theorem Nl (m:Option Nat){R:Fv->Hp->Prop}(hR:R ⟨uV,#[],#[.pointer (some ⟨U.size,0,none⟩)]⟩ (U.push (.cells #[.map m] DB (0,0)))) :
 Qi.c m U R:=by
 rintro w rfl;refine(callsIn_wide.1 (AnyZI.keys_in Tryz.mT Fence.wide 5 trivial rfl m w)).mono ?_;rintro e a ⟨rfl,rfl⟩;exact⟨⟨rfl,rfl,rfl,qY (by show _<(w.heap.push _).size;simp)⟩,[.func (.func uV) #[] #[.pointer (some ⟨w.heap.size,0,none⟩)]],rfl,⟨uV,#[],#[.pointer (some ⟨w.heap.size,0,none⟩)]⟩,rfl,hR⟩
def jO (x:Int):Prop:=-9223372036854775808<=x/\x<=9223372036854775807
theorem Kw {P:Program}{kt:Nat}(hk:P.underlying kt=some (.int .i64)){w:World}{m:Nat}{c:CK}{B:List (Int×c.T)}(h:dH w.heap m .i64 c B)(hb:∀x∈B,jO x.1)(hs:B.length<=1000000) :
 ∃D:DataW Unit,w.ownsMap P kt (λ_=>some (.nil,[])) m B.length D/\(intKeys D).Perm (B.map (·.1))/\Maps.size D=B.length:=by
 obtain⟨d,A,G,s,K,J,F⟩:=h;have r:d.size=B.length:=by simpa using congrArg List.length s
 have j:∀e∈d.toList,∃x:Int,e.key=.int .i64 x/\jO x:=by
  intro e hme;have:(e.key,e.val)∈d.toList.map (λe=>(e.key,e.val)):=xB hme;rw[s]at this;obtain⟨y,L,e2⟩:=zE.1 this;simp only[Prod.mk.injEq]at e2;exact⟨y.1,e2.1.symm,hb y L⟩
 have wf:∀x:Int,jO x->(Lit.int .i64 x).wf=true:=by
  rintro x ⟨u,Q⟩;simp[Lit.wf,IntKind.min,IntKind.max,IntKind.bits,IntKind.signed];omega
 have i:∀e∈d.toList,∃x:Int,e.key=.int .i64 x/\Go.WideElems.rd P kt (λ_=>some ((.nil:DataW Unit),[])) e=some (.int .i64 x,.nil):=by
  intro e hme;obtain⟨x,g,M⟩:=j e hme;refine⟨x,g,?_⟩;simp[Go.WideElems.rd,keyOf,hk,g,mapKey,wf x M]
 refine⟨.map ((d.toList.map (Go.WideElems.rg P kt (λ_=>some (.nil,[])))).foldr DataW.insert []),⟨d,A,G,⟨?_,⟨λx g=>F x g,?_,?_⟩,λx g=>?_⟩,O,rfl⟩,?_,?_⟩
 ·have:1000000<=maxLen:=by unfold maxLen;omega
  omega
 ·exact J.imp (λh=>wV h)
 ·have C:d.toList.map (·.key)=(B.map (·.1)).map (Value.int .i64):=by
   have:=congrArg (List.map Prod.fst) s;simpa[lx,Function.comp_def]using this
  rw[C];exact List.Pairwise.map _ (λa b (E:a≠b) z=>E (by simpa using z)) K
 ·obtain⟨N,_,u⟩:=i x g;exact⟨_,u⟩
 ·simp only[intKeys];refine((Go.WideShapes.sorted_perm _).map _).trans ?_;rw[lx];have:d.toList.map ((λp=>Go.intOf p.1)∘Go.WideElems.rg P kt (λ_=>some ((.nil:DataW Unit),[])))=B.map (·.1):=by
   have C:d.toList.map (·.key)=(B.map (·.1)).map (Value.int .i64):=by
    have:=congrArg (List.map Prod.fst) s;simpa[lx,Function.comp_def]using this
   have H:d.toList.map ((λp=>Go.intOf p.1)∘Go.WideElems.rg P kt (λ_=>some ((.nil:DataW Unit),[])))=(d.toList.map (·.key)).map (λv=>match v with | .int _ x=>x|_=>0):=by
    rw[lx];apply kh;intro e hme;obtain⟨x,g,u⟩:=i e hme;simp[Function.comp,Go.WideElems.rg,u,g,Go.intOf]
   rw[H,C,lx]
   conv=>rhs;rw[←uM (B.map (·.1))]
   rfl
  rw[this]
 ·simp only[Maps.size];rw[(Go.WideShapes.sorted_perm _).length_eq];simp[r]
theorem UD {w:World}{B e n:Nat}{v:Value}{xs:List Value}(h:w.ownsRow B e 1 v n xs):∃s:Sl,v=.slice s.a s.len s.cap/\lN B w.heap s xs:=by
 obtain⟨b,h⟩:=h;rcases h with⟨rfl,rfl⟩|⟨g,cap,cur,rfl,hb,hg,_,_,hcs,ht⟩
 ·exact⟨⟨none,0,0⟩,rfl,by simp at b;simp[b],.inl ⟨by simpa using b,rfl⟩⟩
 ·refine⟨⟨some ⟨g,0,none⟩,n,cap⟩,rfl,by simp at b;simp[b],.inr ⟨g,cur.toList,hb,rfl,⟨e,by simpa using hg⟩,λj d=>?_⟩⟩;rw[←ht,zk,zC O]
theorem Mz {w:World}{c m:Nat}{B:List (Int×Bool)}(hc:cell w.heap ⟨c,0,none⟩=some (.map (some m)))(hm:dH w.heap m .i64 .b B)(hb:∀x∈B,jO x.1)(hs:B.length<=1000000)(n:Nat)(hn:1<=n) :
 SeqGives Fence.wide n Tryz.prog uV #[.pointer (some ⟨c,0,none⟩)] encZ (λss=>ss.Perm (B.map (·.1))) B.length w:=by
 obtain⟨D,g,i,a⟩:=Kw (P:=Tryz.prog) Tryz.mT.t26 hm hb hs;have d:c<w.heap.size:=by
  unfold cell at hc;split at hc
  ·rename_i h;exact(zz.1 h).1
  ·cases hc
 have:=AnyZI.keys_gives (ρ:=Tryz.iB) {Tryz.mT with} Fence.wide n trivial rfl hn c m B.length D w d hc g;intro l J W hW hJ hY h0;rw[a]at this;refine(this l J W hW hJ hY h0).mono ?_;rintro e W' ⟨p,ss,r,j⟩;exact⟨p,ss,r.trans i,j⟩
theorem wN (m:Nat):AnyZI.SortsIn Tryz.prog Tryz.jz Fence.wide m:=
 ⟨λbT d cap e W g a b=>callsIn_wide.2 (AnyM.slices_Sort_int Tryz.kR bT d cap e W g a b),
  λp cap W=>callsIn_wide.2 (AnyM.slices_Sort_int_none Tryz.kR p cap W)⟩
theorem TI {c m:Nat}{B:List (Int×Bool)}(hc:cell U ⟨c,0,none⟩=some (.map (some m)))(hm:dH U m .i64 .b B)(hb:∀x∈B,jO x.1)(hs:B.length<=1000000){R:Sl->Hp->Prop}
 (hR:∀(s:Sl) (σ':Hp) (ss:List Int),aG U σ'->ss.Perm (B.map (·.1))->lN U.size σ' s (ss.map (Value.int .i64))->R s σ') :
 Vs.c ⟨uV,#[],#[.pointer (some ⟨c,0,none⟩)]⟩ U R:=by
 rintro w rfl;have i:=Mz hc hm hb hs 3 O;have p:B.length<=maxLen:=by unfold maxLen;omega
 have y:=AnyZI.collect_in Tryz.wA Fence.wide 5 trivial trivial rfl O uV #[.pointer (some ⟨c,0,none⟩)] trivial (Tryz.mT.f10.enters rfl) _ _ p O _ i;refine(callsIn_wide.1 y).mono ?_;rintro e z ⟨v,ss,rfl,u,d,r,g⟩;obtain⟨s,rfl,j⟩:=UD d;exact⟨UJ g,[.slice s.a s.len s.cap],rfl,s,rfl,hR s _ ss (Vd g) u j⟩
end Go.Bu
namespace Go.Bu
open Go Go.Vc Go.Proofs
variable {U:Hp}{p n sb:Nat}{S:Nat->Bool}{ms:List Nat}
theorem M5 {B:Nat}{s:Sl}{xs:List Int}(hs:lN B U s (xs.map (Value.int .i64)))(hl:xs.length<1000000000){m:Int}(hm:m∈xs)(hle:∀y∈xs,m<=y){R:aN}(hR:R m U):XK.c s U R:=by
 refine XK.o ?_;unfold XK.v;have z:s.len=xs.length:=by simpa using hs.1
 have g:0<xs.length:=List.length_pos_of_mem hm;refine Jn.intro (fT O ?_);have w:xs[0]?=some xs[0]:=by simp[g]
 refine hs.mI (i:=0) w ?_;refine VO (a:=bN) (bb:=bN) (λ(c t:Int) u=>∃k:Nat,t=(k:Int)/\k<=xs.length/\u=U/\c∈xs/\∀(j:Nat) (y:Int),j<k->xs[j]?=some y->c<=y) (λ_ t _=>xs.length-t.toNat)
  ⟨1,rfl,O,rfl,zp _,λj y p d=>?_⟩ ?_
 ·have:j=0:=by omega
  subst this;rw[w]at d;cases d;omega
 rintro c t u ⟨k,rfl,G,rfl,A,b⟩;refine cP (λE=>?_) (λC=>?_)
 ·have r:k<xs.length:=by omega
  have x:xs[k]?=some xs[k]:=by simp[r]
  refine hs.mI x (cS (m:=k+1) O O ⟨⟨k+1,rfl,O,rfl,?_,λj y p d=>?_⟩,O⟩)
  ·split
   ·exact zp _
   ·exact A
  ·by_cases e:j=k
   ·subst e;rw[x]at d;cases d;split<;>omega
   ·have:=b j y O d;split<;>omega
 ·have:k=xs.length:=by omega
  subst this;obtain⟨j,p,e⟩:=vo hm;have F:=b j m p (by simp[p,e]);have D:=hle c A;have:c=m:=Int.le_antisymm F D;rw[this];exact hR
def Kq (n:Nat)(S:Nat->Bool)(k:Nat):List Nat:=((List.range n).filter (can S k)).map (· * 2^k)
theorem SO (hb:Bounded S n){k q:Nat}(hc:can S k q=true):q<n:=by
 have:=ZQ hb (ZE.1 hc).1;have a:=kJ k;have b:q<=q*2^k:=Nat.le_mul_of_pos_right _ a;omega
theorem QT (hb:Bounded S n){k x:Nat}:x∈Kq n S k↔∃q,x=q*2^k/\can S k q=true:=by
 simp only[Kq,zE,zI,zd];constructor
 ·rintro⟨q,⟨_,hc⟩,rfl⟩;exact⟨q,rfl,hc⟩
 ·rintro⟨q,rfl,hc⟩;exact⟨q,⟨SO hb hc,hc⟩,rfl⟩
theorem Hz (n:Nat)(S:Nat->Bool)(k:Nat):(Kq n S k).Pairwise (· < ·):=by
 unfold Kq;refine List.Pairwise.map _ (λa b h=>Nat.mul_lt_mul_of_pos_right h (kJ k)) ?_;exact List.Pairwise.sublist tU List.pairwise_lt_range
theorem HM (n:Nat)(S:Nat->Bool)(k:Nat):(Kq n S k).length=many n S k:=by
 simp[Kq,many,xH]
theorem SQ {k:Nat}{B:List (Int×Bool)}(hK:Keys S k B)(hn:(B.map (·.1)).Nodup)(hb:Bounded S n):(B.map (·.1)).Perm ((Kq n S k).map λ(x:Nat)=>(x:Int)):=by
 rw[xX hn]
 ·intro x;simp only[zE];constructor
  ·rintro⟨⟨x1,x2⟩,hm,rfl⟩;obtain⟨_,q,i,d⟩:=hK.1 x1 x2 hm;exact⟨_,(QT hb).2 ⟨q,rfl,d⟩,i.symm⟩
  ·rintro⟨y,hy,rfl⟩;obtain⟨q,rfl,d⟩:=(QT hb).1 hy;exact⟨_,hK.2 q d,rfl⟩
 ·refine List.Pairwise.map _ (λa b (g:a<b)=>?_) (Hz n S k);intro e;have:a=b:=by exact_mod_cast e
  omega
theorem L3 {k:Nat}{B:List (Int×Bool)}(hK:Keys S k B)(hb:Bounded S n)(hn:n<=1024):∀x∈B,jO x.1:=by
 rintro⟨x,v⟩ hx;obtain⟨_,q,rfl,a⟩:=hK.1 x v hx;have:=ZQ hb (ZE.1 a).1;have:=kJ k;constructor<;>simp only<;>omega
theorem LA (h:BH U p n S sb ms){k:Nat}(hk:ms.length<=k):Kq n S k=[]:=by
 rw[List.eq_nil_iff_forall_not_mem];intro x hx;obtain⟨q,_,a⟩:=(QT h.jr).1 hx;have:=h.fits (ZQ h.jr (ZE.1 a).1);omega
theorem Ld {h:Hp}{v:Value}{e:Nat}:cell (h.push (.cells #[v] e (0,0))) ⟨h.size,0,none⟩=some v:=by simp[cell]
theorem Hc (h:Hp)(o:Obj):aG h (h.push o):=Ext.push _ _ _
def eV (a:Int):Bool:=(List.range 11).any λk=>a==((2^k:Nat):Int)
theorem LX:(List.range 1025).all (λa=>a==0||((a &&& (a-1))==0)==((List.range 11).any λk=>a==2^k))=true:=by decide +kernel
theorem UZ {a:Nat}(h1:1<=a)(h2:a<=1024):((a &&& (a-1))==0)=((List.range 11).any λk=>a==2^k):=by
 have:=ke.1 LX a (zd.2 O);simp only[nG,zT]at this;rcases this with h|h
 ·omega
 ·exact h
theorem Vi (a:Nat):eV (a:Int)=((List.range 11).any λk=>a==2^k):=by
 unfold eV
 congr 1
 funext k
 rw[l9];simp only[zT];exact⟨λh=>by exact_mod_cast h,λh=>by exact_mod_cast h⟩
def fL (aF align:Int):Bool:=decide (1<=aF)&&(decide (aF<=1024)&&(decide (1<=align)&&(decide (align<=1024)&&eV align)))
def ZJ (n:Nat)(S:Nat->Bool)(aF align:Nat):Nat->Option Nat
 | 0=>none
 | k+1=>match ZJ n S aF align k with
  | some x=>some x
  | none=>if aF<=2^k/\align<=2^k then(Kq n S k).head? else none
def Zh (n:Nat)(S:Nat->Bool)(aF align:Nat):Option Nat:=ZJ n S aF align 11
def iP (n:Nat)(S:Nat->Bool)(aF align:Int):Int:=if fL aF align then(match Zh n S aF.toNat align.toNat with|some _=>0|none=>6)else 1
def iX (n:Nat)(S:Nat->Bool)(aF align:Int):Nat:=if fL aF align then(match Zh n S aF.toNat align.toNat with|some x=>x|none=>0)else 0
def iV (n:Nat)(S:Nat->Bool)(aF align:Int):Nat->Bool:=if fL aF align then(match Zh n S aF.toNat align.toNat with|some x=>take S x (x+aF.toNat)|none=>S)else S
theorem S7 {n:Nat}{S:Nat->Bool}{m a k x:Nat}(h:ZJ n S m a k=some x):∀j,k<=j->ZJ n S m a j=some x:=by
 intro j hj
 induction j with
 | zero=>
  have:k=0:=by omega
  subst this;exact h
 | succ j ih=>
  by_cases e:k=j+1
  ·subst e;exact h
  ·simp only[ZJ,ih O]
theorem O4 (h:BH U p n S sb ms){m a:Nat}(hn:ZJ n S m a ms.length=none):∀j,ms.length<=j->ZJ n S m a j=none:=by
 intro j hj
 induction j with
 | zero=>
  have:ms.length=0:=by omega
  rw[this]at hn;exact hn
 | succ j ih=>
  by_cases e:ms.length=j+1
  ·rw[←e];exact hn
  ·simp only[ZJ,ih O,LA h (show ms.length<=j by omega)];simp
theorem Jc {k:Nat}(hpos:0<many n S k):∃x rest,Kq n S k=x::rest:=by
 rw[←HM]at hpos
 match h:Kq n S k with
 | []=>rw[h]at hpos;simp at hpos
 | x::r=>exact⟨x,r,rfl⟩
theorem kU (h:BH U p n S sb ms)(aF align:Int){R:Int->Int->Hp->Prop}
 (hR:∀σ',Ext (· ∈ ms) U σ'->BH σ' p n (iV n S aF align) sb ms->R ((iX n S aF align:Nat):Int) (iP n S aF align) σ'):XG.c (aW p) aF align U R:=by
 refine XG.o ?_;unfold XG.v;have hn2:=h.n2;have hl:=h.len;have L:fL aF align=false->R 0 1 U:=λe=>by
  have:=hR U (Ext.refl _ _);simp only[iV,iX,iP,e,ze,j8]at this;exact this h
 have d:¬(1<=aF/\aF<=1024/\1<=align/\align<=1024)->R 0 1 U:=λhn=>L (by
  simp only[fL,←Bool.and_assoc,←ve];rw[zN];rfl;omega)
 refine AK h (cB rfl (bW.intro ?_));refine cP (λh1=>bW.intro (cC rfl (bW.intro (cC rfl (bW.intro (cC rfl (cC rfl (d O)))))))) λh1=>?_;refine bW.intro (cP (λh2=>bW.intro (cC rfl (bW.intro (cC rfl (cC rfl (d O)))))) λh2=>?_);refine bW.intro (cP (λZ=>bW.intro (cC rfl (cC rfl (d O)))) λZ=>?_);refine bW.intro (cP (λh4=>cC rfl (d O)) λh4=>?_);obtain⟨a,rfl⟩:=zc (show 0<=align by omega);obtain⟨m,rfl⟩:=zc (show 0<=aF by omega);refine cS (m:=a-1) O O ?_;rw[iU O O];have N:((((a &&& (a-1):Nat):Int)) != 0) = !eV (a:Int):=by
  rw[Vi,←UZ O O];simp only[bne,Bool.not_inj_iff];rw[l9];simp only[zT];omega
 rw[N];cases P:eV (a:Int)
 ·refine cC rfl (L ?_);simp[fL,P]
 refine cB rfl ?_;have K:fL (m:Int) (a:Int)=true:=by
  simp only[fL,P,u6,zF,zU];omega
 refine bK (h.rB λcap=>?_);refine Qc (a:=bN) (λt F=>∃k:Nat,t=(k:Int)/\k<=ms.length/\F=U/\ZJ n S m a k=none) (λt _=>ms.length-t.toNat) ⟨0,rfl,O,rfl,rfl⟩ ?_;rintro t F ⟨k,rfl,hk,rfl,r⟩;refine cP (λW=>?_) (λhge=>?_)
 ·simp only at W;obtain⟨mm,hm⟩:=h.get (k:=k) O;refine h.rM hm (mG O (bW.intro ?_));have next:ZJ n S m a (k+1)=none->Ar .i64 ((k:Int)+1) λH=>(∃k:Nat,H=(k:Int)/\k<=ms.length/\F=F/\ZJ n S m a k=none)/\ms.length-H.toNat<ms.length-(k:Int).toNat:=
   λG=>cS (m:=k+1) O O ⟨⟨k+1,rfl,O,rfl,G⟩,O⟩
  refine cP (λM=>?_) (λY=>cB rfl (next ?_))
  ·have j:m<=2^k/\a<=2^k:=by
    have:((if(a:Int)>(m:Int)then(a:Int)else(m:Int))<=((2^k:Nat):Int)):=M
    split at this<;>omega
   refine h.lr hm ?_;refine cP (λhpos=>?_) (λhz=>next ?_)
   ·have w:0<many n S k:=by omega
    obtain⟨x,rest,Q⟩:=Jc w;obtain⟨q,rfl,hc⟩:=(QT h.jr (k:=k) (x:=x)).1 (by rw[Q];simp);have D:Zh n S m a=some (q*2^k):=by
     refine S7 (k:=k+1) ?_ 11 O;simp only[ZJ,r,zC j,Q,List.head?_cons]
    have hfb:=ZQ h.jr (ZE.1 hc).1;obtain⟨B,hB,A⟩:=h.maps k mm hm;have g:=IZ A hB.nodup h.jr;have hle:B.length<=1024:=by
     rw[g];have:=List.countP_le_length (p:=can S k) (l:=List.range n);simp only[many,xL]at *;omega
    refine Nl _ ?_;have e1:=Hc F (.cells #[.map (some mm)] DB (0,0));refine TI Ld (e1.fS hB id) (L3 A h.jr h.n2) O λs σ' ss e2 P X=>?_;have C:=P.trans (SQ A hB.nodup h.jr);have u:=C.length_eq;simp only[zl]at u;rw[HM,←g]at u;refine M5 X O (m:=((q*2^k:Nat):Int)) (C.mem_iff.2 (by rw[Q];simp)) (λy hy=>?_) ?_
    ·have E:=C.mem_iff.1 hy;have b:=Hz n S k;rw[Q]at E b;simp only[zR,zV,zE]at E;rcases E with rfl|⟨z,hz,rfl⟩
     ·omega
     ·have:=(r5.1 b).1 z hz;omega
    ·have hB2:=(h.bO e1).bO e2;refine Nm hB2 O (λy hy1 hy2=>Ub hc (Qb.2 O)) λZ e3 V=>?_;have:=hR Z ((e1.to.trans e2.to).trans e3);simp only[iV,iX,iP,K,dD,D,zS]at this;exact this V
   ·simp only[ZJ,r,zC j];have:Kq n S k=[]:=A9 (by rw[HM];omega);rw[this];rfl
  ·have J:¬(m<=2^k/\a<=2^k):=by
    have:¬((if(a:Int)>(m:Int)then(a:Int)else(m:Int))<=((2^k:Nat):Int)):=Y
    split at this<;>omega
   simp only[ZJ,r,zB J]
 ·simp only at hge;have:k=ms.length:=by omega
  subst this;have D:Zh n S m a=none:=O4 h r 11 O;have:=hR F (Ext.refl _ _);simp only[iV,iX,iP,K,dD,D,zS]at this;exact this h
end Go.Bu
namespace Go.Ar
open Go.Bu
structure AR where
 n:Nat
 room:Nat
 tb:List bZ
 S:Nat->Bool
 st:List Nat
 ow:Nat->Nat
 cE:List (List cF)
 cM:List gI
 runs:List (Nat×Nat)
def AR.ck (A:AR)(k:Int):Bool:=decide (0<=k)&&decide (k<(A.tb.length:Int))
def VR (A:AR)(r:Nat×Nat):AR:={A with ow:=jH A.ow r.1 r.2 0,st:=Uv A.st r.1 r.2 2 [1],S:=QI A.n A.S r.1 r.2}
def Uf (A:AR)(rs:List (Nat×Nat)):AR:=rs.foldl VR A
def cY (sp:Sp)(size:Nat):Option Nat:=((List.range (sp.st.length/size)).map (· * size)).find? λs=>s != 0&&fA sp s size==0
def US (st:List Nat)(a m:Nat):List Nat:=((List.range m).map (a + ·)).foldl (λl (h:Nat)=>iO l h) st
def UT (A:AR)(sp:Sp)(size:Nat):Option (AR×Sp):=match cY sp size with
 | none=>none
 | some s=>some ({A with st:=US A.st (s/16) (size/16),S:=QI A.n A.S s size},fU sp s size)
def Q4 (m:Nat):Nat:=if m<=16 then 16 else if m<=32 then 32 else 64
def dR (A:AR)(x aF no:Nat):AR:={A with S:=take A.S x (x+aF),st:=Uv A.st x aF 1 [2,3],ow:=jH A.ow x aF no}
def cZ (A:AR)(sp:Sp)(aF align no:Nat):Option Nat×AR×Sp:=match Zh A.n A.S aF align with
 | some x=>(some x,dR A x aF no,sp)
 | none=>match UT A sp (Q4 (max aF align))with
  | none=>(none,A,sp)
  | some (A',sp')=>match Zh A'.n A'.S aF align with
   | some x=>(some x,dR A' x aF no,sp')
   | none=>(none,A',sp')
def Z6 (A:AR)(k:Int):Int:=if A.ck k then(match A.cM[k.toNat]? with
 | some t=>if t.bs=[]then 4 else 0
 | none=>5)else 1
def Yy (A:AR)(k:Int):List Int:=if Z6 A k=0 then(match A.cM[k.toNat]? with
 | some t=>t.bs.getLast?.getD []
 | none=>[])else[]
def ZG (A:AR)(k:Int):AR:=if Z6 A k=0 then{A with cM:=A.cM.modify k.toNat gI.rem}else A
def He (A:AR)(k:Int)(xs:List Int):Int:=if A.ck k then(match A.tb[k.toNat]?,A.cE[k.toNat]? with
 | some c,some ss=>if xs.length=c.batch then(if xs.all (λx=>eB c ss x==some true)then 0 else 8)else 1
 | _,_=>5)else 1
def Vn (A:AR)(k:Int)(xs:List Int):Bool:=decide (He A k xs=0)&&(match A.cM[k.toNat]? with
 | some t=>decide (t.bs.length<A.room)
 | none=>false)
def Ke (A:AR)(k:Int)(xs:List Int):AR:=if Vn A k xs then{A with cM:=A.cM.modify k.toNat λt=>{t with bs:=t.bs++[xs]}}else A
def QC (A:AR)(k m:Int):Int:=if A.ck k then(if m<0 then 1 else 0)else 1
def Vt (A:AR)(k m:Int):List Nat×List cF:=match A.tb[k.toNat]?,A.cE[k.toNat]? with
 | some c,some ss=>Kb c m.toNat ss
 | _,_=>([],[])
def Yj (A:AR)(k m:Int):List Nat:=if QC A k m=0 then(Vt A k m).1 else[]
def YA (A:AR)(k m:Int):AR:=if QC A k m=0 then{A with cE:=A.cE.set k.toNat (Vt A k m).2}else A
def QU (A:AR)(k:Int)(xs:List Int):Int:=if A.ck k then(match A.tb[k.toNat]?,A.cE[k.toNat]? with
 | some c,some ss=>iF c ss xs
 | _,_=>5)else 1
def ZC (A:AR)(k:Int)(xs:List Int):AR:=if QU A k xs=0 then(match A.tb[k.toNat]?,A.cE[k.toNat]? with
 | some c,some ss=>Uf {A with cE:=A.cE.set k.toNat (cH (xs.foldl (fD c) ss))} ((Qo (xs.foldl (fD c) ss)).map λs=>(s,c.aF))
 | _,_=>A)else A
def KT (A:AR)(sp:Sp)(k:Int):Int:=if A.ck k then(match A.tb[k.toNat]?,A.cE[k.toNat]? with
 | some c,some ss=>(match (cZ A sp c.aF 1 (k.toNat+1)).1 with
  | some x=>GB c ss x
  | none=>6)
 | _,_=>5)else 1
def cL (A:AR)(sp:Sp)(k:Int):AR×Sp:=if A.ck k then(match A.tb[k.toNat]?,A.cE[k.toNat]? with
 | some c,some ss=>(match cZ A sp c.aF 1 (k.toNat+1)with
  | (some x,A',sp')=>(if GB c ss x=0 then{A' with cE:=A'.cE.set k.toNat (ij c ss x)}else A',sp')
  | (none,A',sp')=>(A',sp'))
 | _,_=>(A,sp))else(A,sp)
def Ks (m a:Int):Bool:=decide (1<=m)&&(decide (m<=64)&&(a==1||(a==2||(a==4||(a==8||a==16)))))
def Qx (A:AR)(sp:Sp)(m a:Int):Int:=if Ks m a then(if(cZ A sp m.toNat a.toNat 41).1.isSome then 0 else 6)else 1
def Z5 (A:AR)(sp:Sp)(m a:Int):Nat:=if Ks m a then(cZ A sp m.toNat a.toNat 41).1.getD 0 else 0
def cA (A:AR)(sp:Sp)(m a:Int):AR×Sp:=if Ks m a then(match cZ A sp m.toNat a.toNat 41 with
 | (some x,A',sp')=>({A' with runs:=mset2 A'.runs x m.toNat},sp')
 | (none,A',sp')=>(A',sp'))else(A,sp)
where mset2 (l:List (Nat×Nat)) (x m:Nat):List (Nat×Nat):=if l.any (λr=>r.1==x)then l.map (λr=>if r.1==x then(x,m)else r)else l++[(x,m)]
def pT (A:AR)(x:Int):Option (Nat×Nat):=A.runs.find? λr=>(r.1:Int)==x
def K0 (A:AR)(x:Int):Int:=if(pT A x).isSome then 0 else 8
def QD (A:AR)(x:Int):AR:=match pT A x with
 | some r=>VR {A with runs:=A.runs.filter λq=>!((q.1:Int)==x)} r
 | none=>A
def rm (A:AR)(p:Nat):Option (Nat×Nat):=A.runs.find? λr=>decide (r.1<=p)&&decide (p<r.1+r.2)
def U4 (A:AR)(x:Int):Option (Int×Nat):=if x<0 then none else
 let p:=x.toNat/256
 let no:=if p<1024 then A.ow p else 0
 if no=0 then none else if no=41 then(rm A p).map λr=>(-1,r.1*256)else
 match A.tb[no-1]?,A.cE[no-1]? with
 | some c,some ss=>(qX c ss x).map λa=>(((no-1:Nat):Int),a)
 | _,_=>none
def vJ (A:AR)(x:Int):Bool:=match U4 A x with
 | some (k,a)=>if(a:Int)=x then(if k<0 then true else(match A.tb[k.toNat]?,A.cE[k.toNat]? with
  | some c,some ss=>eB c ss x==some true
  | _,_=>false))else false
 | none=>false
def G4 (A:AR)(p:Int):Bool:=decide (0<=p)&&decide (A.st.getD p.toNat 0≠0)
def uK (A:AR)(k:Nat):AR:=match A.cM[k]? with
 | some t=>t.out.foldl (λA' xs=>ZC A' k xs) {A with cM:=A.cM.set k t.tick}
 | none=>A
def rr (A:AR):AR:=(List.range A.cM.length).foldl uK A
end Go.Ar
namespace Go.Ar
open Go.Vc (bU dA cR)
inductive Ph where
 | take (k:Nat)
 | cI (k w:Nat)
 | cJ (k w:Nat)
 | grow (k w:Nat)
 | fill
 | eJ (m:Nat)
 | find (x:Int)
 | put (k:Nat) (x:Int)
 | back
 | dC (s a:Int)
 | drain
 deriving DecidableEq
structure Th where
 ls:List Li
 bP:List Bt
 ph:Option Ph
structure Cf where
 aF:Nat
 ib:Nat
 threads:Nat
 dB:Nat
 room:Nat
abbrev Bk:=Int×Int×Int×Int
structure Hw where
 tb:List bZ
 cf:Cf
 sp:Sp
 bX:List AR
 bQ:List Th
 live:List (Int×Bk)
def XU (bX:List AR)(x:Int):Int:=if x<0 then -1 else match bX.findIdx? (λA=>G4 A (x/256))with
 | some i=>(i:Int)
 | none=>-1
def Hw.own (H:Hw)(t:Nat):Nat:=t%H.bX.length
def Hw.dV (H:Hw)(t:Nat)(f:Th->Th):Hw:={H with bQ:=H.bQ.modify t f}
def Hw.cD (H:Hw)(k:Nat)(A:AR):Hw:={H with bX:=H.bX.set k A}
def VE (H:Hw)(x size cls:Int):Hw:={H with live:=dA H.live x (x,size,cls,XU H.bX x)}
def QO (H:Hw)(t k:Nat)(xs:List Int):Hw:=H.dV t λh=>{h with bP:=h.bP++[(k,xs)]}
def j2 (H:Hw)(t:Nat):Option Ph:=match H.bQ[t]? with
 | some h=>if h.bP=[]then none else some .back
 | none=>none
def ZO (bX:List AR)(xs:List Int)(a:Nat):List Int:=xs.filter λx=>XU bX x==(a:Int)
def Vh (H:Hw)(k:Nat)(part:Nat->List Int)(l:List Nat):Hw:=l.foldl (λH a=>match H.bX[a]? with
 | some A=>if part a=[]then H else H.cD a (ZC A (k:Int) (part a))
 | none=>H) H
def HU (H:Hw)(own k:Nat)(xs:List Int):Hw:=match H.bX[own]? with
 | some A=>if(ZO H.bX xs own).length=xs.length/\Vn A (k:Int) xs=true then H.cD own (Ke A (k:Int) xs)
  else Vh (if(ZO H.bX xs own).length=xs.length then H.cD own (Ke A (k:Int) xs)else H) k (ZO H.bX xs) (List.range H.bX.length)
 | none=>H
abbrev tD:=Hw×Option Ph×Int×Int
def lZ (H:Hw)(x:Int):Int:=if 0<=XU H.bX x then(match H.bX[(XU H.bX x).toNat]? with
 | some A=>(match U4 A x with
  | some (k,y)=>if 0<=k/\(y:Int)=x then 9 else 8
  | none=>8)
 | none=>8)else 8
def U6 (H:Hw)(t:Nat)(x:Int):tD:=match bU H.live x with
 | none=>(H,none,0,lZ H x)
 | some b=>if b.2.2.1<0 then({H with live:=cR H.live x},some (.dC (x/256) b.2.2.2),0,0)
  else(QO {H with live:=cR H.live x} t b.2.2.1.toNat [x],some (.put b.2.2.1.toNat x),0,0)
def Hw.jW (H:Hw)(t:Nat):Th:=H.bQ.getD t ⟨[],[],none⟩
def Hw.cls (H:Hw)(k:Nat):bZ:=H.tb.getD k ⟨8,1,1⟩
def Hw.eD (H:Hw)(t:Nat):AR:=H.bX.getD (H.own t) ⟨0,0,[],λ_=>false,[],λ_=>0,[],[],[]⟩
def Th.li (h:Th)(k:Nat):Li:=h.ls.getD k il
def Th.gT (h:Th)(k:Nat)(l:Li):Th:={h with ls:=h.ls.set k l}
def iw (H:Hw)(t k:Nat)(x:Int):Hw:=
 let c:=H.cls k
 let l:=(H.jW t).li k
 let H1:=H.dV t λh=>h.gT k (dK c x l).2
 let H2:=if(dK c x l).1=[]then H1 else QO H1 t k (dK c x l).1
 let H3:=H2.dV t λh=>{h with bP:=h.bP.drop 1}
 if H.cf.dB<Q3 H.tb (H3.jW t).ls then H3.dV t λh=>{h with ls:=Kc KU H.tb h.ls,bP:=h.bP++Kg KU H.tb h.ls}else H3
def Wt (H:Hw)(t:Nat):Ph->tD
 | .take k=>match Kh (H.cls k) ((H.jW t).li k)with
  | (some x,l)=>(VE (H.dV t λh=>h.gT k l) x ((H.cls k).size:Int) (k:Int),none,x,0)
  | (none,l)=>(H.dV t λh=>h.gT k l,some (.cI k (oM (H.cls k) l)),0,0)
 | .cI k w=>if w=(H.cls k).batch then(if Z6 (H.eD t) (k:Int)=0 then(QO (H.cD (H.own t) (ZG (H.eD t) (k:Int))) t k (Yy (H.eD t) (k:Int)),some .fill,0,0)else(H,some (.cJ k w),0,0))else(H,some (.cJ k w),0,0)
 | .cJ k w=>
  let H1:=H.cD (H.own t) (YA (H.eD t) (k:Int) (w:Int))
  if Yj (H.eD t) (k:Int) (w:Int)=[]then(H1,some (.grow k w),0,0)else(QO H1 t k ((Yj (H.eD t) (k:Int) (w:Int)).map λ(x:Nat)=>(x:Int)),some .fill,0,0)
 | .grow k w=>
  let r:=cL (H.eD t) H.sp (k:Int)
  let H1:={H.cD (H.own t) r.1 with sp:=r.2}
  if KT (H.eD t) H.sp (k:Int)=0 then(H1,some (.cJ k w),0,0)else(H1,none,0,KT (H.eD t) H.sp (k:Int))
 | .fill=>match (H.jW t).bP with
  | (k,x::xs)::_=>(VE (H.dV t λh=>{ls:=h.ls.set k (eC xs.reverse (h.li k)),bP:=[],ph:=h.ph}) x ((H.cls k).size:Int) (k:Int),none,x,0)
  | _=>(H,none,0,0)
 | .eJ m=>
  let r:=cA (H.eD t) H.sp (m:Int) 1
  let H1:={H.cD (H.own t) r.1 with sp:=r.2}
  let x:Int:=((Z5 (H.eD t) H.sp (m:Int) 1*256:Nat):Int)
  if Qx (H.eD t) H.sp (m:Int) 1=0 then(VE H1 x ((m*256:Nat):Int) (-1),none,x,0)else(H1,none,0,Qx (H.eD t) H.sp (m:Int) 1)
 | .find x=>U6 H t x
 | .put k x=>(iw H t k x,j2 (iw H t k x) t,0,0)
 | .back=>match (H.jW t).bP with
  | (k,xs)::r=>
   let H1:=HU (H.dV t λh=>{h with bP:=r}) (H.own t) k xs
   (H1,j2 H1 t,0,0)
  | []=>(H,none,0,0)
 | .dC s a=>(match H.bX[a.toNat]? with
  | some A=>H.cD a.toNat (QD A s)
  | none=>H,none,0,0)
 | .drain=>
  let H1:=H.dV t λh=>{h with ls:=Kc ZP H.tb h.ls,bP:=Kg ZP H.tb h.ls}
  (H1,j2 H1 t,0,0)
end Go.Ar