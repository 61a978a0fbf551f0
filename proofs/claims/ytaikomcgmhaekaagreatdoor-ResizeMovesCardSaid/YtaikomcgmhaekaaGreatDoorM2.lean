/- Texts joined. -/
import Derived.Deep.Slices
import Derived.Deep.Fields
import Derived.ChangeSame
import Derived.Lib.SmallJoins
import Derived.Below
import Derived.Test.YtaikomcgmhaekaaGreatDoorProg
import Derived.KernelRfl
import Derived.RangeFuncLeaves
import Derived.RangeFuncRecord
import Derived.RangeFuncSeq
import Derived.RangeFuncCalls
import Derived.OrdersIn
import Derived.TacticsIn
import Derived.RangeFuncIn
import Derived.Shelf.SlIterI.Nil
import Derived.Shelf.SortM.Plain
import Derived.Shelf.SortM.SortNone
import Derived.Ground.GgzProg
import Derived.Ground.SlgmProg
import Derived.Shelf.SlMaps.Clone
import Derived.Ground.SlmcProg
import Derived.Test.YtaikomcgmhaekaaGreatDoorM1
set_option linter.unusedVariables false
set_option linter.unusedSimpArgs false
namespace Go.Vc
open Go
abbrev Rg:=Nat->Prop
def dH (P:Hp->Rg->Prop):Prop:=∀U σ' (F G:Rg),P U F->U.size<=σ'.size->(∀b,b<U.size->F b->G b/\σ'[b]?=U[b]?)->P σ' G
def Grow (F:Rg)(U:Hp):Rg:=λb=>F b\/U.size<=b
theorem dH.mono {P:Hp->Rg->Prop}(hl:dH P){U:Hp}{F G:Rg}(h:P U F)(hs:∀b,b<U.size->F b->G b):P U G:=hl U U F G h (zC _) λb a d=>⟨hs b a d,rfl⟩
theorem dH.bV {P:Hp->Rg->Prop}(hl:dH P){U σ':Hp}{F T:Rg}(h:P U F)(e:Ext T U σ')(hn:∀b,b<U.size->F b->¬T b):P σ' F:=
 hl U σ' F F h e.1 λb a d=>⟨d,e.2 b a (hn b a d)⟩
theorem dH.aF {P:Hp->Rg->Prop}(hl:dH P){U σ':Hp}{F:Rg}(h:P U F)(e:aG U σ'):P σ' F:=hl.bV h e λ_ _ _=>id
def Sep {L:Type}(C:L->Hp->Rg->Prop)(U:Hp)(F:Rg):Prop:=∃ρ:Nat->L,∀i,C i U λb=>F b/\ρ b=i
variable {L:Type}{C:L->Hp->Rg->Prop}{U σ':Hp}{F:Rg}
theorem Sep.loc (hC:∀i,dH (C i)):dH (Sep C):=by
 rintro U j F G ⟨ρ,h⟩ g d;exact⟨ρ,λi=>hC i _ _ _ _ (h i) g λb e a=>⟨⟨(d b e a.1).1,a.2⟩,(d b e a.1).2⟩⟩
theorem Sep.get (h:Sep C U F)(i:L):∃G:Rg,(∀b,G b->F b)/\C i U G:=by
 obtain⟨ρ,h⟩:=h;exact⟨_,λb a=>a.1,h i⟩
open Classical in
theorem Sep.step (hC:∀i,dH (C i))(h:Sep C U F)(i:L):∃G:Rg,(∀b,G b->F b)/\C i U G/\∀(σ':Hp) (C':L->Hp->Rg->Prop) (G':Rg),
 (∀j,j≠i->C' j=C j)->Ext G U σ'->(∀b,G' b->G b\/U.size<=b)->C' i σ' G'->dH (C' i)->Sep C' σ' λb=>F b/\b<U.size/\¬G b\/G' b:=by
 obtain⟨ρ,h⟩:=h;refine⟨_,λb d=>d.1,h i,λσ' C' G' w e r s u=>⟨λb=>if G' b then i else ρ b,λj=>?_⟩⟩
 by_cases hji:j=i
 ·subst hji;exact u.mono s λb _ d=>⟨.inr d,zB d⟩
 ·rw[w j hji];refine hC j _ _ _ _ (h j) e.1 λb d m=>?_;have a:¬(F b/\ρ b=i):=λp=>hji (m.2.symm.trans p.2);have g:¬G' b:=λp=>by
   rcases r b p with h1|h1
   ·exact a h1
   ·omega
  exact⟨⟨.inl ⟨m.1,d,a⟩,(zA g).trans m.2⟩,e.2 b d a⟩
open Classical in
theorem Sep.nI (hC:∀i,dH (C i))(h:Sep C U F)(i j:L)(hij:i≠j):∃G H:Rg,(∀b,G b->F b)/\(∀b,H b->F b)/\(∀b,G b->¬H b)/\C i U G/\C j U H/\∀(σ':Hp) (C':L->Hp->Rg->Prop) (G' H':Rg),
 (∀k,k≠i->k≠j->C' k=C k)->Ext (λb=>G b\/H b) U σ'->(∀b,G' b->(G b\/H b)\/U.size<=b)->(∀b,H' b->(G b\/H b)\/U.size<=b)->(∀b,G' b->¬H' b)->C' i σ' G'->C' j σ' H'->(∀k,dH (C' k)) →
 Sep C' σ' λb=>F b/\b<U.size/\¬(G b\/H b)\/G' b\/H' b:=by
 obtain⟨ρ,h⟩:=h;refine⟨_,_,λb a=>a.1,λb a=>a.1,λb g y=>hij (g.2.symm.trans y.2),h i,h j,λσ' C' G' H' x e B A hd w z u=>⟨λb=>if G' b then i else if H' b then j else ρ b,λk=>?_⟩⟩
 by_cases hki:k=i
 ·subst hki;exact(u _).mono w λb _ a=>⟨.inr (.inl a),zB a⟩
 by_cases hkj:k=j
 ·subst hkj;exact(u _).mono z λb _ a=>⟨.inr (.inr a),by show(if G' b then i else if H' b then k else ρ b)=k;rw[zA λd=>hd b d a,zB a]⟩
 ·rw[x k hki hkj];refine hC k _ _ _ _ (h k) e.1 λb a r=>?_;have s:¬((F b/\ρ b=i)\/F b/\ρ b=j):=by
   rintro(d|d)
   ·exact hki (r.2.symm.trans d.2)
   ·exact hkj (r.2.symm.trans d.2)
  have m:¬G' b:=λd=>by
   rcases B b d with g|g
   ·exact s g
   ·omega
  have p:¬H' b:=λd=>by
   rcases A b d with g|g
   ·exact s g
   ·omega
  exact⟨⟨.inl ⟨r.1,a,s⟩,by show(if G' b then i else if H' b then j else ρ b)=k;rw[zA m,zA p];exact r.2⟩,e.2 b a s⟩
def gR (p:Nat)(cs:List Value):Hp->Rg->Prop:=λU F=>F p/\bY U p cs
theorem gR.loc (p:Nat)(cs:List Value):dH (gR p cs):=λU g F G h d a=>by
 obtain⟨e,b⟩:=h.2;have:=a p h.2.lt h.1;exact⟨this.1,e,this.2.trans b⟩
def iT (r:Nat)(k:IntKind)(c:CK)(l:List (Int×c.T)):Hp->Rg->Prop:=λU F=>F r/\dD U r k c l
theorem iT.loc (r:Nat)(k:IntKind)(c:CK)(l:List (Int×c.T)):dH (iT r k c l):=λU j F G h i d=>by
 have:=d r h.2.lt h.1;obtain⟨g,b,e,a⟩:=h.2;exact⟨this.1,g,b,this.2.trans e,a⟩
def xH:Hp->Rg->Prop:=λ_ _=>True
theorem xH.loc:dH xH:=λ_ _ _ _ _ _ _=>trivial
def vX (s:Sl)(sz:Nat)(xs:List Value):Hp->Rg->Prop:=λU F=>Own F U s sz xs
theorem vX.loc (s:Sl)(sz:Nat)(xs:List Value):dH (vX s sz xs):=λU g F G h d a=>by
 refine⟨h.1,h.2.imp id ?_⟩;rintro⟨b,cs,hq,ha,⟨e,he⟩,r⟩;have:=a b (bY.lt ⟨e,he⟩) hq;exact⟨b,cs,this.1,ha,⟨e,this.2.trans he⟩,r⟩
def bR (s:Sl)(sz:Nat)(xs:List Value):Hp->Rg->Prop:=λh F=>xs.length=s.len*sz/\(s.len=0/\s.cap=0\/∃b cs,F b/\s.a=some ⟨b,0,none⟩/\bY h b cs/\s.len<=s.cap/\cs.length=s.cap*sz/\cs.take xs.length=xs)
theorem bR.loc (s:Sl)(sz:Nat)(xs:List Value):dH (bR s sz xs):=λU g F G h d a=>by
 refine⟨h.1,h.2.imp id ?_⟩;rintro⟨b,cs,hq,ha,⟨e,he⟩,r⟩;have:=a b (bY.lt ⟨e,he⟩) hq;exact⟨b,cs,this.1,ha,⟨e,this.2.trans he⟩,r⟩
theorem _root_.aI{s n xs}:dH (bR s n xs):=bR.loc _ _ _
theorem bR.nil (h:Hp)(F:Rg)(sz:Nat)(a:Option Addr):bR ⟨a,0,0⟩ sz [] h F:=⟨by simp,.inl ⟨rfl,rfl⟩⟩
theorem bR.rd {h:Hp}{F:Rg}{s:Sl}{sz:Nat}{xs:List Value}(ho:bR s sz xs h F):Rd h s.a xs:=by
 rcases ho.2 with⟨hl,_⟩|⟨b,cs,_,ha,hb,_,_,ht⟩
 ·have:=ho.1;rw[hl]at this;simp at this;subst this;cases s.a<;>simp[Rd]
 ·rw[ha];intro j v hv;rw[add_lit,hb.cell,zG];rw[←ht,zY]at hv;split at hv
  ·exact hv
  ·cases hv
theorem bR.app {F:Rg}{h:Hp}{s x:Sl}{sz bytes e:Nat}{zs xs ys:List Value}{K:Sl->Hp->Prop}(ho:bR s sz xs h F)(hz:zs.length=sz)
 (hy:ys.length=x.len*sz) (hr:Rd h x.a ys) (h1:∀v∈ys,dJ v=true) (hb:(s.len+x.len)*bytes<=2^46) (hc:s.len+x.len<=2^62)
 (hx:0<x.len) (hK:∀s' h',s'.len=s.len+x.len->Ext F h h'->bR s' sz (xs++ys) h' (Grow F h)->K s' h'):App s sz bytes e zs x h K:=by
 refine⟨xs,ys,ho.1,hy,ho.rd,hr,h1,hb,hc,λg=>?_,λp c m=>?_⟩
 ·rcases ho.2 with⟨hl,hcap⟩|⟨b,cs,hQ,ha,hk,hle,hcl,ht⟩
  ·omega
  ·rw[ha];simp only;rw[add_lit];have r:(s.len+x.len)*sz<=s.cap*sz:=k7 _ g;rw[zl]at r;have d:=ho.1;refine Uc hk O λh' i j=>hK _ h' rfl (Ext.eL i hQ) ⟨?_,.inr ⟨b,_,.inl hQ,rfl,j,g,?_,?_⟩⟩
   ·simp[d,hy,zl]
   ·simp;omega
   ·rw[zR,d];rw[zG,zw,←d];rw[ht,qb aA,l0 aA]
 ·refine hK _ _ rfl (Ext.push _ _ _) ⟨by simp[ho.1,hy,zl],.inr ⟨h.size,xs++ys++(List.replicate (c-(s.len+x.len)) zs).flatten,.inr (zC _),rfl,⟨e,by simp⟩,m,?_,?_⟩⟩
  ·simp only[zR,wg,uU,wG,ho.1,hy,hz,←zl]
   congr 1;omega
  ·rw[qb aA,l0 aA]
theorem bR.st {F:Rg}{h:Hp}{s:Sl}{sz:Nat}{xs:List Value}(ho:bR s sz xs h F){j:Nat}(hj:j<xs.length){v:Value}{K:aP}{a:Addr}(ha:∀b,s.a=some ⟨b,0,none⟩->a=⟨b,j,none⟩)
 (hK:∀h',Ext F h h'->bR s sz (xs.set j v) h' F->K h'):eP a v h K:=by
 rcases ho.2 with⟨hl,_⟩|⟨b,cs,hq,hsa,hb,hle,hcl,ht⟩
 ·have:=ho.1;rw[hl]at this;simp at this;subst this;simp at hj
 ·rw[ha b hsa];have d:j<cs.length:=by
   have:(cs.take xs.length).length=xs.length:=by rw[ht]
   rw[zL]at this;omega
  refine⟨by rw[hb.cell,cQ d];rfl,hb.oW,hK _ (Ext.kg (F:=F) hq) ⟨by simp[ho.1],.inr ⟨b,_,hq,hsa,hb.set v,hle,by simp[hcl],?_⟩⟩⟩;rw[nZ,List.take_set,ht]
def cS (s:Sl)(sz:Nat)(xs:List Value):Hp->Rg->Prop:=λU F=>xs.length=s.len*sz/\(xs=[]\/∃b o cs,F b/\s.a=some ⟨b,o,none⟩/\nm U b cs/\∀j,j<xs.length->cs[o+j]?=xs[j]?)
theorem cS.loc (s:Sl)(sz:Nat)(xs:List Value):dH (cS s sz xs):=λU g F G h d a=>by
 refine⟨h.1,h.2.imp id ?_⟩;rintro⟨b,o,cs,hq,ha,⟨e,z,he⟩,r⟩;have:=a b (nm.lt ⟨e,z,he⟩) hq;exact⟨b,o,cs,this.1,ha,⟨e,z,this.2.trans he⟩,r⟩
theorem _root_.aH{s n xs}:dH (cS s n xs):=cS.loc _ _ _
theorem bR.fM {Q:Rg}{h:Hp}{s:Sl}{sz:Nat}{xs:List Value}(ho:bR s sz xs h Q):cS s sz xs h Q:=by
 refine⟨ho.1,?_⟩;rcases ho.2 with⟨hl,_⟩|⟨b,cs,hq,ha,hb,_,_,ht⟩
 ·left;have:=ho.1;rw[hl]at this;simpa using this
 ·refine .inr ⟨b,0,cs,hq,ha,hb.q,λj a=>?_⟩;rw[←ht,zY,zG,zB a]
theorem cS.cell {s:Sl}{sz:Nat}{xs:List Value}(h:cS s sz xs U F){j:Nat}{v:Value}(hv:xs[j]?=some v):∃b o,s.a=some ⟨b,o,none⟩/\Vc.cell U ⟨b,o+j,none⟩=some v:=by
 have d:=(cV.1 hv).1;rcases h.2 with h0|⟨b,o,cs,_,ha,hb,hc⟩
 ·subst h0;simp at d
 ·exact⟨b,o,ha,by rw[hb.cell,hc j d];exact hv⟩
theorem cS.nK {s:Sl}{k:IntKind}{xs:List Int}(h:cS s 1 (xs.map (Value.int k)) U F){i:Nat}{x:Int}(hx:xs[i]?=some x){K:Int->Prop}(hK:K x):Ix s.a s.len (i:Int) 1 λa=>gO k a U K:=by
 have m:=(cV.1 hx).1;obtain⟨b,o,d,g⟩:=h.cell (j:=i) (v:=.int k x) (by simp[hx]);have e:=h.1;simp at e;rw[d];refine ix O O ?_;rw[add_lit];exact nL (by simpa using g) hK
theorem cS.rd {s:Sl}{sz:Nat}{xs:List Value}(h:cS s sz xs U F):Rd U s.a xs:=by
 cases ha:s.a with
 | none=>
  rcases h.2 with h0|⟨b,o,cs,_,d,_⟩
  ·exact h0
  ·rw[ha]at d;cases d
 | some a=>
  intro j v hv;obtain⟨b,o,d,e⟩:=h.cell hv;rw[ha]at d;cases d;rw[add_lit];exact e
end Go.Vc
namespace Go.Vc
open Go Go.ChangeShapes Go.WideShapes Go.Deep Go.RowKit
def TA (U:Hp):Bool->Hp->Prop:=λb σ'=>b=true/\aG U σ'
theorem SM {P:Program}{f:Nat}{args:Array Value}{w:World}(h:We P f args [.one .b] w.heap (TA w.heap)):Calls P f args w λe w'=>e=.returned (.bool true)/\Below w.heap.size w w':=by
 refine(h w rfl).mono ?_;rintro e w' ⟨a,vs,rfl,d⟩
 match vs,d with
 | [v],d=>
  obtain⟨x,rfl,m,i⟩:=d;have g:x=true:=m;subst g;exact⟨rfl,⟨a.1,a.2.1,a.2.2.1,a.2.2.2,λk j=>i.2 k j id⟩⟩
def iB (h:Hp)(l:Sl)(xs:List (Int×Int×Int)):Prop:=l.len=xs.length/\∀i x y z,xs[i]?=some (x,y,z)->∃b o,l.a=some ⟨b,o,none⟩/\b<h.size ∧
 cell h ⟨b,o+i*3,none⟩=some (.int .i64 x)/\cell h ⟨b,o+i*3+1,none⟩=some (.int .i64 y)/\cell h ⟨b,o+i*3+2,none⟩=some (.int .i64 z)
theorem Jx {h:Hp}{a:Addr}{v:Value}(hc:cell h a=some v):a.block<h.size/\a.spot=none:=by
 unfold cell at hc;split at hc
 ·rename_i heq;refine⟨(lY.1 heq).1,?_⟩;cases hs:a.spot with
  | none=>rfl
  | some s=>rw[hs]at hc;simp at hc
 ·cases hc
end Go.Vc
namespace Go.Vc
open Go
theorem hO {k:IntKind}{b o i:Nat}{h:Hp}{x:Int}{K:Int->Prop}(hc:cell h ⟨b,o+i,none⟩=some (.int k x))(hK:K x):gO k (Addr.add ⟨b,o,none⟩ i) h K:=by
 rw[add_lit];exact nL hc hK
theorem cC {e:Int}{m:Nat}{K:Int->Prop}(he:e=(m:Int))(hm:m<=4611686018427387904)(hK:K (m:Int)):Ar .i64 e K:=by
 rw[he];exact ar O O hK
theorem Eo {k:Nat}(h:k<=62):min ((k:Int).toNat) IntKind.i64.bits=k:=by
 have:IntKind.i64.bits=64:=rfl;rw[this];omega
theorem pc {k:IntKind}{e:Int}{K:Int->Prop}(hK:K (k.wrap e)):Ar k e K:=hK
variable {U:Hp}{b o i j:Nat}{cs:List Value}
theorem bY.rI (hb:bY U b cs){k:IntKind}{x:Int}{K:Int->Prop}(hc:cs[o+i]?=some (.int k x))(hK:K x):gO k (Addr.add ⟨b,o,none⟩ i) U K:=by
 rw[add_lit];exact nL (hb.cell.trans hc) hK
theorem bY.rB (hb:bY U b cs){x:Bool}{K:Bool->Prop}(hc:cs[o+i]?=some (.bool x))(hK:K x):kB (Addr.add ⟨b,o,none⟩ i) U K:=by
 rw[add_lit];exact lB (hb.cell.trans hc) hK
theorem bY.rP (hb:bY U b cs){x:Option Addr}{K:Option Addr->Prop}(hc:cs[o+i]?=some (.pointer x))(hK:K x):fW (Addr.add ⟨b,o,none⟩ i) U K:=by
 rw[add_lit];exact tN (hb.cell.trans hc) hK
theorem bY.rM (hb:bY U b cs){x:Option Nat}{K:Option Nat->Prop}(hc:cs[o+i]?=some (.map x))(hK:K x):lU (Addr.add ⟨b,o,none⟩ i) U K:=by
 rw[add_lit];exact FN (hb.cell.trans hc) hK
theorem bY.rS (hb:bY U b cs){a:Option Addr}{n c:Nat}{K:Sl->Prop}(hc:cs[o+i]?=some (.slice a n c))(hK:K ⟨a,n,c⟩):ji (Addr.add ⟨b,o,none⟩ i) U K:=by
 rw[add_lit];exact nR (hb.cell.trans hc) hK
theorem bY.gA (hb:bY U b cs){k:IntKind}{x:Int}{K:Int->Prop}(hc:cs[o+i+j]?=some (.int k x))(hK:K x):gO k (Addr.add (Addr.add ⟨b,o,none⟩ i) j) U K:=by
 rw[add_lit,add_lit];exact nL (hb.cell.trans hc) hK
theorem bY.sM (hb:bY U b cs){k:IntKind}{x:Int}{K:Int->Prop}(hc:cs[o]?=some (.int k x))(hK:K x):gO k ⟨b,o,none⟩ U K:=nL (hb.cell.trans hc) hK
theorem bY.uI (hb:bY U b cs){x:Option Addr}{K:Option Addr->Prop}(hc:cs[o]?=some (.pointer x))(hK:K x):fW ⟨b,o,none⟩ U K:=tN (hb.cell.trans hc) hK
theorem bY.yA (hb:bY U b cs){a:Option Addr}{n c:Nat}{K:Sl->Prop}(hc:cs[o]?=some (.slice a n c))(hK:K ⟨a,n,c⟩):ji ⟨b,o,none⟩ U K:=nR (hb.cell.trans hc) hK
theorem bY.s1 (hb:bY U b cs){v:Value}(ho:o+i<cs.length){K:aP}(hK:∀h',QT U h' b->bY h' b (cs.set (o+i) v)->K h'):eP (Addr.add ⟨b,o,none⟩ i) v U K:=by
 rw[add_lit];refine⟨?_,hb.oW,hK _ ⟨VS _ _ _,λc a=>Ut a⟩ (hb.set v)⟩;rw[hb.cell,cQ ho];rfl
theorem bY.s0 (hb:bY U b cs){v:Value}(ho:o<cs.length){K:aP}(hK:∀h',QT U h' b->bY h' b (cs.set o v)->K h'):eP ⟨b,o,none⟩ v U K:=by
 refine⟨?_,hb.oW,hK _ ⟨VS _ _ _,λc a=>Ut a⟩ (hb.set v)⟩;rw[hb.cell,cQ ho];rfl
theorem nw {e:Nat}{K:Addr->Hp->Prop}(hK:∀h',h'.size=U.size+1->aG U h'->bY h' U.size cs->K ⟨U.size,0,none⟩ h'):Nw (.cells cs.toArray e (0,0)) U K:=
 hK _ aA (Ext.push _ _ _) (bY.push _ _ _)
theorem Gj {K:Addr->Hp->Prop}(hK:∀h',h'.size=U.size+1->aG U h'->(∀(k:IntKind) (c:CK),dD h' U.size k c [])->K ⟨U.size,0,none⟩ h'):Nw (.map #[] 0) U K:=
 hK _ aA (Ext.push _ _ _) λk c=>dD.push _ _ _
theorem mk {n bytes e:Nat}{zs:List Value}{K:Sl->Hp->Prop}(h1:bytes*n<=1073741824)(h2:n<=1073741824)
 (hK:∀h',h'.size=U.size+1->aG U h'->bY h' U.size (List.replicate n zs).flatten->K ⟨some ⟨U.size,0,none⟩,n,n⟩ h'):Mk (n:Int) (n:Int) bytes e zs U K:=by
 refine⟨O,wK _,?_,O,?_⟩
 ·have:((bytes:Int)*(n:Int))=((bytes*n:Nat):Int):=by simp
  rw[this];omega
 ·simp only[dE];exact nw hK
theorem jI {s:Sl}{sz lo hi mx:Nat}{K:Sl->Prop}(h1:lo<=hi)(h2:hi<=mx)(h3:mx<=s.cap)(hK:K ⟨if mx=lo then s.a else s.a.map (·.add (lo*sz)),hi-lo,mx-lo⟩):fE s sz (lo:Int) (hi:Int) (mx:Int) K:=
 ⟨O,O,O,O,by simpa using hK⟩
theorem jg (a b:Nat):(((a:Nat):Int)==((b:Nat):Int))=(a==b):=by rw[nP];simp;omega
theorem pJ (a b:Nat):(((a:Nat):Int) != ((b:Nat):Int))=(a != b):=by rw[bne,bne,jg]
theorem sT (a:Nat):(((a:Nat):Int)==0)=(a==0):=jg a 0
theorem A6 (a:Nat):(((a:Nat):Int) != 0)=(a != 0):=pJ a 0
def ints (l:List Nat):List Value:=l.map λ(x:Nat)=>Value.int .i64 (x:Int)
theorem QZ (l:List Nat):(ints l).length=l.length:=by simp[ints]
theorem Er {l:List Nat}{i x:Nat}(h:l[i]?=some x):(ints l)[i]?=some (.int .i64 (x:Int)):=by simp[ints,h]
theorem VJ (l m:List Nat):ints (l++m)=ints l++ints m:=by simp[ints]
theorem cS.oO {s:Sl}{F:Rg}{xs:List Nat}(h:cS s 1 (ints xs) U F){i x:Nat}(hx:xs[i]?=some x){K:Int->Prop}(hK:K (x:Int)):Ix s.a s.len (i:Int) 1 λa=>gO .i64 a U K:=by
 have j:=(cV.1 hx).1;obtain⟨b,o,d,g⟩:=h.cell (Er hx);have e:=h.1;rw[QZ]at e;rw[d];refine ix O O ?_;rw[add_lit];exact nL (by simpa using g) hK
theorem cS.jV {s:Sl}{F:Rg}{xs:List Nat}(h:cS s 1 (ints xs) U F):s.len=xs.length:=by
 have:=h.1;rw[QZ]at this;omega
theorem cS.nil (F:Rg)(a:Option Addr)(c sz:Nat):cS ⟨a,0,c⟩ sz [] U F:=⟨by simp,.inl rfl⟩
theorem bY.fM {s:Sl}{sz:Nat}{xs:List Value}(hb:bY U b cs)(ha:s.a=some ⟨b,o,none⟩)(hl:xs.length=s.len*sz)(hc:∀j,j<xs.length->cs[o+j]?=xs[j]?):cS s sz xs U (· = b):=
 ⟨hl,.inr ⟨b,o,cs,rfl,ha,hb.q,hc⟩⟩
theorem LM {a xa:Option Addr}{xc sz bytes e:Nat}{zs:List Value}{K:Sl->Hp->Prop}(hK:K ⟨a,0,0⟩ U):App ⟨a,0,0⟩ sz bytes e zs ⟨xa,0,xc⟩ U K:=by
 refine⟨[],[],by simp,by simp,by cases a<;>simp[Rd],by cases xa<;>simp[Rd],by simp,by simp,by simp,λ_=>?_,λh=>absurd (zC 0) h⟩
 cases a
 ·exact hK
 ·exact hK
theorem bR.push {F:Rg}{s:Sl}{sz bytes e t:Nat}{zs xs vs:List Value}{K:Sl->Hp->Prop}(ho:bR s sz xs U F)(hF:∀b,U.size<=b->F b)(hz:zs.length=sz)(hv:vs.length=sz)(h1:∀v∈vs,dJ v=true)
 (hb:bytes<=1000) (hl:s.len<=1000000) (hK:∀s' h',s'.len=s.len+1->Ext F U h'->bR s' sz (xs++vs) h' F->K s' h') :
 Nw (.cells vs.toArray t (0,0)) U λn v=>App s sz bytes e zs ⟨some n,1,1⟩ v K:=by
 refine nw λv r e1 i=>?_;have g:=(bR.loc s sz xs).aF ho e1;refine g.app (ys:=vs) hz (by simp[hv]) ?_ h1 ?_ ?_ mu λs' h' a m d=>hK s' h' a (e1.to.trans m) ?_
 ·intro j u hu;rw[add_lit,zG,i.cell];exact hu
 ·simp only;have:(s.len+1)*bytes<=1000001*1000:=lV O hb;omega
 ·simp only;omega
 ·exact aI.mono d λb _ p=>by
   rcases p with h|h
   ·exact h
   ·exact hF b O
theorem bR.jV {F:Rg}{s:Sl}{xs:List Nat}(h:bR s 1 (ints xs) U F):s.len=xs.length:=by
 have:=h.1;rw[QZ]at this;omega
theorem JK {l:List Nat}:∀v∈ints l,dJ v=true:=by
 intro v hv;simp only[ints,zD]at hv;obtain⟨x,_,rfl⟩:=hv;rfl
theorem yc {F:Rg}{s:Sl}{sz bytes e:Nat}{zs vs:List Value}{R:Sl->Hp->Prop}(h:cS s sz vs U F)(hpos:0<sz)(hz:zs.length=sz)(h1:∀v∈vs,dJ v=true)(hb:bytes<=1000)(hl:s.len<=1000000)
 (hR:∀s' σ',s'.len=s.len->aG U σ'->bR s' sz vs σ' (λb=>U.size<=b)->R s' σ') :
 If s.a.isNone (R ⟨none,0,0⟩ U) (Nw (.cells #[] e (0,0)) U λn v=>App ⟨some n,0,0⟩ sz bytes e zs s v λt v1=>R t v1):=by
 have d:=h.1;refine cU (λp=>?_) λp=>?_
 ·have C:vs=[]:=by
   rcases h.2 with g|⟨b,o,cs,_,ha,_⟩
   ·exact g
   ·rw[ha]at p;cases p
  subst C;have g:s.len=0:=by
   have u:s.len*sz=0:=by simpa using d.symm
   rcases uB.1 u with h|h
   ·exact h
   ·omega
  exact hR _ _ (by simp[g]) (Ext.refl _ _) (bR.nil _ _ _ _)
 ·refine nw (cs:=[]) λv y e1 z=>?_;have x:=(cS.loc s sz vs).aF h e1;rcases uW s.len with g|g
  ·obtain⟨a,n,c⟩:=s;simp only at g;subst g;have:vs=[]:=by simpa using d
   subst this;exact LM (hR _ _ rfl e1 (bR.nil _ _ _ _))
  ·refine(bR.nil v (λb=>U.size<=b) sz (some ⟨U.size,0,none⟩)).app (ys:=vs) hz d x.rd h1 ?_ ?_ g λs' B m A j=>hR s' B (by simpa using m) ?_ ?_
   ·simp only[zG];have:s.len*bytes<=1000000*1000:=lV hl hb;omega
   ·simp only;omega
   ·exact Ext.fresh e1 A λi r=>r
   ·rw[qv]at j;exact aI.mono j λb _ w=>by
     rcases w with h|h
     ·exact h
     ·omega
def Cut (F:Rg)(U:Hp):Rg:=λb=>F b/\b<U.size
theorem dH.cut {P:Hp->Rg->Prop}(hl:dH P){F:Rg}(h:P U F):P U (Cut F U):=hl.mono h λb a d=>⟨d,a⟩
theorem Ext.cut {F:Rg}{σ':Hp}(e:Ext (Cut F U) U σ'):Ext F U σ':=⟨e.1,λb a d=>e.2 b a λg=>d g.1⟩
theorem Ext.sub {F G:Rg}{a b:Hp}(e:Ext F a b)(h:∀i,F i->G i):Ext G a b:=e.mono λi _ d=>h i d
theorem QT.ext {h h':Hp}{r:Nat}(ho:QT h h' r):Ext (· = r) h h':=Ext.eL ho rfl
theorem Ext.iK {F:Rg}{a b c:Hp}(e:Ext F a b)(k:Ext (Grow F a) b c):Ext F a c:=
 ⟨zP e.1 k.1,λi g d=>(k.2 i (uG g e.1) λj=>by rcases j with h|h;exact d h;omega).trans (e.2 i g d)⟩
theorem Ext.eY {F G:Rg}{a b c:Hp}(e:Ext F a b)(k:Ext G b c)(h:∀i,G i->F i\/a.size<=i):Ext F a c:=e.iK (k.sub h)
theorem oP {P:Program}{f:Nat}{first caps:Array Value}{args:List Value}{all:Array Value}{rs:List SK}{R:eR (iO rs)}(hok:Gn P f=true)(he:first++args.toArray++caps=all)
 (hc:We P f all rs U R):UE P ⟨f,first,caps⟩ args rs U R:=⟨hok,by unfold FZ;simp only;rw[he];exact hc⟩
theorem Ki {h h':Hp}{F:Nat->Prop}(e:Ext F h h'){b o:Nat}(hb:b<h.size)(hF:¬F b):cell h' ⟨b,o,none⟩=cell h ⟨b,o,none⟩:=by
 unfold cell;rw[e.2 b hb hF]
theorem S9 {h h':Hp}{l:Sl}{xs:List (Int×Int×Int)}{F:Nat->Prop}(ha:iB h l xs)(e:Ext F h h')(hF:∀b,F b->∀o,l.a≠some ⟨b,o,none⟩):iB h' l xs:=by
 refine⟨ha.1,λi x y z u=>?_⟩;obtain⟨b,o,j,d,s,p,r⟩:=ha.2 i x y z u;have g:¬F b:=λm=>hF b m o j;exact⟨b,o,j,uG d e.1,by rw[Ki e d g];exact s,by rw[Ki e d g];exact p,by rw[Ki e d g];exact r⟩
theorem Qg {h h':Hp}{l:Sl}{xs:List (Int×Int×Int)}(ha:iB h l xs)(e:aG h h'):iB h' l xs:=S9 ha e λ_ h=>h.elim
theorem Ak {h:Hp}{l:Sl}{xs:List (Int×Int×Int)}(ha:iB h l xs){i:Nat}{x y z:Int}(hx:xs[i]?=some (x,y,z)){K:Int->Int->Int->Prop}(hK:K x y z) :
 Ix l.a l.len (i:Int) 3 λa=>gO .i64 (a.add 0) h λu=>gO .i64 (a.add 1) h λv=>gO .i64 (a.add 2) h λw=>K u v w:=by
 obtain⟨b,o,j,p,g,d,e⟩:=ha.2 i x y z hx;have m:=(cV.1 hx).1;rw[j];refine ix O (by rw[ha.1];omega) ?_;rw[add_lit];refine hO (by simpa using g) (hO (by simpa using d) (hO (by simpa using e) hK))
end Go.Vc
namespace Go.Proofs
open Go.Vc
abbrev _root_.R1:=@We Tryz.prog
abbrev _root_.R2:=Option Addr
def WS.c (a b c d e f:Int)(g:Sl)(h i j k l m n:Int)(o:ByteArray)(p q r s t u v:Int)(w:ByteArray)(x:Int)(y:Hp)(z:aO):Prop:=R1 5 #[.agg #[.I a,.I b,.I c,.I d,.I e,.I f],.slice g.a g.len g.cap,.agg #[.I h,.I i,.I j,.I k,.I l,.I m,.I n,.string o],.agg #[.I p,.I q,.I r,.I s,.I t,.I u,.I v,.string w],.I x] [.one .b] y z
def X5.c (a b c d e f:Int)(g:Sl)(h:Int)(i:Hp)(j:Option Addr->Sl->Hp->Prop):Prop:=R1 6 #[.agg #[.I a,.I b,.I c,.I d,.I e,.I f],.slice g.a g.len g.cap,.I h] [.one .p,.one .s] i j
def W8.c (a:Hp)(b:aO):Prop:=R1 7 #[] [.one .b] a b
def X9.c (a:R2)(b:Hp)(c:Sl->Hp->Prop):Prop:=R1 8 #[.pointer a] [.one .s] b c
def Xx.c (a:R2)(b:Int)(c:Hp)(d:Int->Int->Hp->Prop):Prop:=R1 10 #[.pointer a,.I b] [.I,.I] c d
def XD.c (a:Sl)(b:Int)(c:Hp)(d:aO):Prop:=R1 12 #[.slice a.a a.len a.cap,.I b] [.one .b] c d
def Xn.c (a:R2)(b:Hp)(c:Sl->Hp->Prop):Prop:=R1 13 #[.pointer a] [.one .s] b c
def Ze.c (a:R2)(b c d:Int)(e:Hp)(f:Int->Int->Hp->Prop):Prop:=R1 14 #[.pointer a,.I b,.I c,.I d] [.I,.I] e f
def XK.c (a:Sl)(b c d e f g h:Int)(i:ByteArray)(j:Hp)(k:aN):Prop:=R1 15 #[.slice a.a a.len a.cap,.agg #[.I b,.I c,.I d,.I e,.I f,.I g,.I h,.string i]] [.I] j k
def QW.c (a:R2)(b:Int)(c:ByteArray)(d:Hp)(e:Int->Int->Hp->Prop):Prop:=R1 18 #[.pointer a,.I b,.string c] [.I,.I] d e
def QA.c (a:R2)(b c d:Int)(e:Hp)(f:aN):Prop:=R1 19 #[.pointer a,.I b,.I c,.I d] [.I] e f
def X7.c (a b:Sl)(c:Hp)(d:aO):Prop:=R1 21 #[.slice a.a a.len a.cap,.slice b.a b.len b.cap] [.one .b] c d
def Zq.c (a:R2)(b:Hp)(c:Option Addr->Hp->Prop):Prop:=R1 22 #[.pointer a] [.one .p] b c
def WT.c (a:R2)(b:Int)(c:Hp)(d:Int->Int->Hp->Prop):Prop:=R1 23 #[.pointer a,.I b] [.I,.I] c d
def WP.c (a b c d e f:Int)(g:Hp)(h:aO):Prop:=R1 24 #[.agg #[.I a,.I b,.I c,.I d,.I e,.I f]] [.one .b] g h
def Ww.c (a b c d e f:Int)(g:Hp)(h:Option Addr->Hp->Prop):Prop:=R1 25 #[.agg #[.I a,.I b,.I c,.I d,.I e,.I f]] [.one .p] g h
def Za.c (a:R2)(b:Sl)(c d e f g h i:Int)(j:ByteArray)(k:Hp)(l:Int->Int->Int->Hp->Prop):Prop:=R1 26 #[.pointer a,.slice b.a b.len b.cap,.agg #[.I c,.I d,.I e,.I f,.I g,.I h,.I i,.string j]] [.I,.I,.I] k l
def XG.c (a:Hp)(b:Option Addr->Hp->Prop):Prop:=R1 27 #[] [.one .p] a b
def Qj.c (a:R2)(b c:Int)(d:Hp)(e:Int->Int->Hp->Prop):Prop:=R1 28 #[.pointer a,.I b,.I c] [.I,.I] d e
def QU.c (a:R2)(b:Int)(c:Hp)(d:ByteArray->Int->Hp->Prop):Prop:=R1 29 #[.pointer a,.I b] [.one .str,.I] c d
def Wz.c (a:R2)(b:Hp)(c:aO):Prop:=R1 30 #[.pointer a] [.one .b] b c
def Ug.c (a:Fv)(b:Hp)(c:Sl->Hp->Prop):Prop:=R1 31 #[.func (.func a.f) a.first a.captured] [.one .s] b c
def ZS.c (a:Option Nat)(b:Hp)(c:Fv->Hp->Prop):Prop:=R1 32 #[.map a] [.one .fn] b c
def Yb.c (a:R2)(b:Sl)(c:Hp)(d:aN):Prop:=R1 33 #[.pointer a,.slice b.a b.len b.cap] [.I] c d
def Xw.c (a:R2)(b c d:Int)(e:Hp)(f:Int->Int->Hp->Prop):Prop:=R1 34 #[.pointer a,.I b,.I c,.I d] [.I,.I] e f
def Zf.c (a:R2)(b c:Int)(d:Hp)(e:aN):Prop:=R1 36 #[.pointer a,.I b,.I c] [.I] d e
def X2.c (a:Sl)(b:Int)(c:Hp)(d:aO):Prop:=R1 37 #[.slice a.a a.len a.cap,.I b] [.one .b] c d
def Z3.c (a:R2)(b c d:Int)(e:Hp)(f:aP):Prop:=R1 38 #[.pointer a,.I b,.I c,.I d] [] e f
def ZA.c (a:Int)(b:Hp)(c:aN):Prop:=R1 39 #[.I a] [.I] b c
def XT.c (a:R2)(b c:Int)(d:Hp)(e:aN):Prop:=R1 40 #[.pointer a,.I b,.I c] [.I] d e
def ZK.c (a:R2)(b c:Int)(d:Hp)(e:aO):Prop:=R1 41 #[.pointer a,.I b,.I c] [.one .b] d e
def Wb.c (a:Sl)(b:Hp)(c:Sl->Hp->Prop):Prop:=R1 42 #[.slice a.a a.len a.cap] [.one .s] b c
def YE.c (a:R2)(b:Hp)(c:Option Addr->Hp->Prop):Prop:=R1 43 #[.pointer a] [.one .p] b c
def ZP.c (a:Option Nat)(b:Hp)(c:Option Nat->Hp->Prop):Prop:=R1 44 #[.map a] [.one .m] b c
def YA.c (a b:R2)(c:Hp)(d:Option Addr->Hp->Prop):Prop:=R1 45 #[.pointer a,.pointer b] [.one .p] c d
def XW.c (a:R2)(b:Hp)(c:Option Addr->Hp->Prop):Prop:=R1 46 #[.pointer a] [.one .p] b c
def Wk.c (a:Sl)(b:Hp)(c:Sl->Hp->Prop):Prop:=R1 47 #[.slice a.a a.len a.cap] [.one .s] b c
def YW.c (a:R2)(b:Hp)(c:Option Addr->Hp->Prop):Prop:=R1 48 #[.pointer a] [.one .p] b c
def Y8.c (a:R2)(b:Int)(c:Hp)(d:Int->Int->Hp->Prop):Prop:=R1 49 #[.pointer a,.I b] [.I,.I] c d
def W3.c (a:Int)(b:Hp)(c:Sl->Int->Hp->Prop):Prop:=R1 50 #[.I a] [.one .s,.I] b c
def Vg.c (a:Sl)(b c d e f:Int)(g:Hp)(h:Option Addr->Int->Hp->Prop):Prop:=R1 51 #[.slice a.a a.len a.cap,.agg #[.I b,.I c,.I d,.I e,.I f]] [.one .p,.I] g h
def Zt.c (a:R2)(b:Int)(c:Hp)(d:aN):Prop:=R1 52 #[.pointer a,.I b] [.I] c d
def Yo.c (a:R2)(b c d e f:Int)(g:Hp)(h:aN):Prop:=R1 53 #[.pointer a,.I b,.agg #[.I c,.I d,.I e,.I f]] [.I] g h
def XE.c (a:R2)(b:Int)(c:Hp)(d:Bool->Int->Int->Int->Hp->Prop):Prop:=R1 54 #[.pointer a,.I b] [.one .b,.agg [bN,bN],.I] c d
def YD.c (a:R2)(b:Int)(c:Hp)(d:Int->Int->Hp->Prop):Prop:=R1 55 #[.pointer a,.I b] [.I,.I] c d
def ZE.c (a:R2)(b:Hp)(c:aN):Prop:=R1 56 #[.pointer a] [.I] b c
def ZG.c (a:R2)(b:Hp)(c:aP):Prop:=R1 57 #[.pointer a] [] b c
def Y4.c (a:R2)(b:Hp)(c:Sl->Hp->Prop):Prop:=R1 58 #[.pointer a] [.one .s] b c
def Z7.c (a:Sl)(b c:Int)(d:Hp)(e:Int->Int->Hp->Prop):Prop:=R1 59 #[.slice a.a a.len a.cap,.I b,.I c] [.I,.I] d e
def VU.c (a:Fv)(b:Hp)(c:Sl->Hp->Prop):Prop:=R1 60 #[.func (.func a.f) a.first a.captured] [.one .s] b c
def Yv.c (a:R2)(b:Hp)(c:Int->Int->Int->Int->Int->Hp->Prop):Prop:=R1 63 #[.pointer a] [.agg [bN,bN,bN,bN,bN]] b c
def Zo.c (a:R2)(b:Int)(c:Hp)(d:ByteArray->Hp->Prop):Prop:=R1 64 #[.pointer a,.I b] [.one .str] c d
def XX.c (a:R2)(b c d e f:Int)(g:Hp)(h:Int->Int->Hp->Prop):Prop:=R1 65 #[.pointer a,.I b,.agg #[.I c,.I d,.I e,.I f]] [.I,.I] g h
def YH.c (a:R2)(b c:Int)(d:Hp)(e:aN):Prop:=R1 67 #[.pointer a,.I b,.I c] [.I] d e
def Zv.c (a:R2)(b:Int)(c:Hp)(d:Int->Int->Int->Int->Int->Hp->Prop):Prop:=R1 68 #[.pointer a,.I b] [.agg [bN,bN,bN,bN],.I] c d
def Xu.c (a:R2)(b:Hp)(c:aO):Prop:=R1 69 #[.pointer a] [.one .b] b c
def WE.c (a:R2)(b:Hp)(c:aO):Prop:=R1 71 #[.pointer a] [.one .b] b c
def WM.c (a:R2)(b:Hp)(c:aN):Prop:=R1 72 #[.pointer a] [.I] b c
def XM.c (a:R2)(b:Hp)(c:Option Addr->Hp->Prop):Prop:=R1 73 #[.pointer a] [.one .p] b c
def W4.c (a:R2)(b:Hp)(c:Option Addr->Hp->Prop):Prop:=R1 74 #[.pointer a] [.one .p] b c
def WZ.c (a:R2)(b:Hp)(c:Option Addr->Hp->Prop):Prop:=R1 75 #[.pointer a] [.one .p] b c
def X1.c (a:R2)(b:Hp)(c:Option Addr->Hp->Prop):Prop:=R1 76 #[.pointer a] [.one .p] b c
def Xr.c (a:R2)(b:Hp)(c:Option Addr->Hp->Prop):Prop:=R1 77 #[.pointer a] [.one .p] b c
def W9.c (a:R2)(b:Hp)(c:aO):Prop:=R1 78 #[.pointer a] [.one .b] b c
def Xy.c (a:R2)(b c:Int)(d:Hp)(e:aN):Prop:=R1 79 #[.pointer a,.I b,.I c] [.I] d e
def Zu.c (a:R2)(b:Int)(c:Hp)(d:aN):Prop:=R1 80 #[.pointer a,.I b] [.I] c d
def Xm.c (a b:Int)(c:Hp)(d:Int->Int->Int->Hp->Prop):Prop:=R1 81 #[.I a,.I b] [.agg [bN,bN,bN]] c d
def X4.c (a b:Int)(c:Hp)(d:aN):Prop:=R1 82 #[.I a,.I b] [.I] c d
def WX.c (a b c:Int)(d:Hp)(e:aN):Prop:=R1 83 #[.agg #[.I a,.I b,.I c]] [.I] d e
def ZU.c (a:Sl)(b:Hp)(c:aO):Prop:=R1 84 #[.slice a.a a.len a.cap] [.one .b] b c
def QV.c (a b c d e:Int)(f:Hp)(g:aO):Prop:=R1 85 #[.agg #[.I a,.I b,.I c,.I d,.I e]] [.one .b] f g
def Kt.c (a:Int)(b:Hp)(c:Option Addr->Int->Hp->Prop):Prop:=R1 86 #[.I a] [.one .p,.I] b c
def Kv.c (a:Sl)(b:R2)(c:Int)(d:Hp)(e:Option Addr->Int->Hp->Prop):Prop:=R1 87 #[.slice a.a a.len a.cap,.pointer b,.I c] [.one .p,.I] d e
def Ku.c (a:Sl)(b:Int)(c:Hp)(d:Option Addr->Int->Hp->Prop):Prop:=R1 88 #[.slice a.a a.len a.cap,.I b] [.one .p,.I] c d
def Yk.c (a:R2)(b:Int)(c:Hp)(d:aO):Prop:=R1 89 #[.pointer a,.I b] [.one .b] c d
def YJ.c (a:R2)(b c d e:Int)(f:Hp)(g:Value->Hp->Prop):Prop:=R1 90 #[.pointer a,.agg #[.I b,.I c,.I d,.I e]] [.one .raw] f g
def ZC.c (a:R2)(b:Int)(c:Value)(d:Hp)(e:Value->Int->Int->Hp->Prop):Prop:=R1 91 #[.pointer a,.I b,c] [.one .raw,.agg [bN,bN]] d e
def Xi.c (a:R2)(b:Int)(c:Hp)(d:Int->Int->Hp->Prop):Prop:=R1 92 #[.pointer a,.I b] [.I,.I] c d
def Yj.c (a:R2)(b:Hp)(c:aN):Prop:=R1 93 #[.pointer a] [.I] b c
def Zb.c (a:R2)(b:Hp)(c:aP):Prop:=R1 94 #[.pointer a] [] b c
def Qz.c (a:Int)(b:Hp)(c:aN):Prop:=R1 95 #[.I a] [.I] b c
def Wn.c (a:Sl)(b:Fv)(c:Hp)(d:aN):Prop:=R1 96 #[.slice a.a a.len a.cap,.func (.func b.f) b.first b.captured] [.I] c d
def Z9.c (a b c:Int)(d e:Addr)(f:Hp)(g:aO):Prop:=R1 97 #[.agg #[.I a,.I b,.I c],.pointer (some d),.pointer (some e)] [.one .b] f g
def ZZ.c (a:Int)(b:Hp)(c:aN):Prop:=R1 100 #[.int .u64 a] [.I] b c
def Zr.c (a:R2)(b c:Int)(d:Hp)(e:aP):Prop:=R1 101 #[.pointer a,.I b,.I c] [] d e
def XQ.c (a:R2)(b:Int)(c:Hp)(d:aN):Prop:=R1 102 #[.pointer a,.I b] [.I] c d
def Yr.c (a:R2)(b:Int)(c:Hp)(d:Int->Int->Int->Hp->Prop):Prop:=R1 103 #[.pointer a,.I b] [.I,.I,.I] c d
def XU.c (a:R2)(b:Hp)(c:aO):Prop:=R1 104 #[.pointer a] [.one .b] b c
def QE.c (a:Option Nat)(b:Hp)(c:Option Nat->Hp->Prop):Prop:=R1 105 #[.map a] [.one .m] b c
def WN.c (a:R2)(b:Hp)(c:aO):Prop:=R1 106 #[.pointer a] [.one .b] b c
def Xt.c (a:R2)(b:Hp)(c:aO):Prop:=R1 107 #[.pointer a] [.one .b] b c
def Qi.c (a:Hp)(b:Option Addr->Hp->Prop):Prop:=R1 108 #[] [.one .p] a b
def YG.c (a:R2)(b:Hp)(c:Sl->Hp->Prop):Prop:=R1 109 #[.pointer a] [.one .s] b c
def Yu.c (a:R2)(b c d:Int)(e:Hp)(f:aN):Prop:=R1 110 #[.pointer a,.I b,.I c,.I d] [.I] e f
def WJ.c (a:R2)(b:Hp)(c:aO):Prop:=R1 111 #[.pointer a] [.one .b] b c
def Zk.c (a:R2)(b:Hp)(c:Option Addr->Hp->Prop):Prop:=R1 112 #[.pointer a] [.one .p] b c
def WL.c (a:R2)(b:Hp)(c:aO):Prop:=R1 113 #[.pointer a] [.one .b] b c
def Wj.c (a:Sl)(b c:Bool)(d:Hp)(e:aO):Prop:=R1 114 #[.slice a.a a.len a.cap,.agg #[.bool b,.bool c]] [.one .b] d e
def Q7.c (a b c:Int)(d:Hp)(e:aO):Prop:=R1 115 #[.agg #[.I a,.I b,.I c]] [.one .b] d e
def Kr.c (a:Int)(b:Hp)(c:Option Addr->Int->Hp->Prop):Prop:=R1 116 #[.I a] [.one .p,.I] b c
def Vh.c (a:Int)(b:Hp)(c:Option Addr->Int->Hp->Prop):Prop:=R1 117 #[.I a] [.one .p,.I] b c
def Qy.c (a b c:Int)(d:Hp)(e:Option Addr->Int->Hp->Prop):Prop:=R1 118 #[.agg #[.I a,.I b,.I c]] [.one .p,.I] d e
def Qa.c (a b:Int)(c:Hp)(d:Option Addr->Int->Hp->Prop):Prop:=R1 119 #[.I a,.I b] [.one .p,.I] c d
def ZM.c (a:R2)(b:Int)(c:Hp)(d:aN):Prop:=R1 120 #[.pointer a,.I b] [.I] c d
def Ys.c (a:R2)(b:Int)(c:Hp)(d:Int->Int->Hp->Prop):Prop:=R1 121 #[.pointer a,.I b] [.I,.I] c d
def Zg.c (a:R2)(b c d:Int)(e:Hp)(f:Value->Int->Int->Hp->Prop):Prop:=R1 122 #[.pointer a,.I b,.I c,.I d] [.one .raw,.agg [bN,bN]] e f
def Yp.c (a:R2)(b:Int)(c:Hp)(d:Int->Int->Hp->Prop):Prop:=R1 123 #[.pointer a,.I b] [.I,.I] c d
def WD.c (a:R2)(b:Int)(c:Hp)(d:Sl->Int->Hp->Prop):Prop:=R1 124 #[.pointer a,.I b] [.one .s,.I] c d
def Yz.c (a:R2)(b c:Int)(d:Sl)(e:Hp)(f:aP):Prop:=R1 125 #[.pointer a,.I b,.I c,.slice d.a d.len d.cap] [] e f
def WF.c (a:R2)(b c:Int)(d:Hp)(e:Sl->Int->Hp->Prop):Prop:=R1 126 #[.pointer a,.I b,.I c] [.one .s,.I] d e
def Yl.c (a:R2)(b:Int)(c:Hp)(d:aN):Prop:=R1 127 #[.pointer a,.I b] [.I] c d
def Yh.c (a:R2)(b:Int)(c:Sl)(d:Hp)(e:aN):Prop:=R1 128 #[.pointer a,.I b,.slice c.a c.len c.cap] [.I] d e
def WW.c (a:R2)(b c:Int)(d:Hp)(e:Int->Int->Hp->Prop):Prop:=R1 129 #[.pointer a,.I b,.I c] [.I,.I] d e
def ZI.c (a:R2)(b c:Int)(d:Hp)(e:Value->Int->Int->Hp->Prop):Prop:=R1 130 #[.pointer a,.I b,.I c] [.one .raw,.agg [bN,bN]] d e
def YV.c (a:R2)(b c:Int)(d:Hp)(e:Sl->Int->Hp->Prop):Prop:=R1 131 #[.pointer a,.I b,.I c] [.one .s,.I] d e
def Yt.c (a:R2)(b:Hp)(c:aO):Prop:=R1 132 #[.pointer a] [.one .b] b c
def Xb.c (a:R2)(b:Hp)(c:Sl->Hp->Prop):Prop:=R1 133 #[.pointer a] [.one .s] b c
def Xa.c (a:R2)(b:Int)(c:Hp)(d:Value->Hp->Prop):Prop:=R1 134 #[.pointer a,.I b] [.one .raw] c d
def Wr.c (a:Sl)(b:Hp)(c:Sl->Hp->Prop):Prop:=R1 135 #[.slice a.a a.len a.cap] [.one .s] b c
def ZF.c (a:R2)(b c:Int)(d:Sl)(e:Hp)(f:aP):Prop:=R1 136 #[.pointer a,.I b,.agg #[.I c,.slice d.a d.len d.cap]] [] e f
def WV.c (a:R2)(b:Int)(c:Hp)(d:aN):Prop:=R1 137 #[.pointer a,.I b] [.I] c d
def XO.c (a:R2)(b:Hp)(c:Sl->Hp->Prop):Prop:=R1 138 #[.pointer a] [.one .s] b c
def Xh.c (a:R2)(b:Sl)(c:Hp)(d:aP):Prop:=R1 139 #[.pointer a,.slice b.a b.len b.cap] [] c d
def W0.c (a:R2)(b:Hp)(c:Sl->Hp->Prop):Prop:=R1 140 #[.pointer a] [.one .s] b c
def YK.c (a:R2)(b:Int)(c:Hp)(d:Sl->Int->Hp->Prop):Prop:=R1 141 #[.pointer a,.I b] [.one .s,.I] c d
def Xd.c (a:R2)(b c:Int)(d:Hp)(e:aN):Prop:=R1 142 #[.pointer a,.I b,.I c] [.I] d e
def XF.c (a:R2)(b c:Int)(d:Hp)(e:aN):Prop:=R1 143 #[.pointer a,.I b,.I c] [.I] d e
def YL.c (a:R2)(b:Hp)(c:Sl->Hp->Prop):Prop:=R1 144 #[.pointer a] [.one .s] b c
def Xj.c (a:R2)(b:Int)(c:Hp)(d:aN):Prop:=R1 145 #[.pointer a,.I b] [.I] c d
def XC.c (a:R2)(b c:Int)(d:Hp)(e:aN):Prop:=R1 146 #[.pointer a,.I b,.I c] [.I] d e
def YF.c (a:R2)(b c:Int)(d:Hp)(e:aN):Prop:=R1 147 #[.pointer a,.I b,.I c] [.I] d e
def Xo.c (a:R2)(b:Hp)(c:Sl->Hp->Prop):Prop:=R1 148 #[.pointer a] [.one .s] b c
def WC.c (a:R2)(b:Int)(c:Sl)(d:Hp)(e:aN):Prop:=R1 149 #[.pointer a,.I b,.slice c.a c.len c.cap] [.I] d e
def ZJ.c (a:Int)(b:Hp)(c:aN):Prop:=R1 160 #[.int .u64 a] [.I] b c
def Wl.c (a:Sl)(b:Fv)(c:Hp)(d:aN):Prop:=R1 161 #[.slice a.a a.len a.cap,.func (.func b.f) b.first b.captured] [.I] c d
def Zj.c (a:R2)(b:Addr)(c:Hp)(d:aO):Prop:=R1 162 #[.pointer a,.pointer (some b)] [.one .b] c d
def Zd.c (a:R2)(b:Int)(c:Hp)(d:aO):Prop:=R1 163 #[.pointer a,.I b] [.one .b] c d
def YZ.c (a:R2)(b:Int)(c:Hp)(d:aN):Prop:=R1 164 #[.pointer a,.I b] [.I] c d
def YM.c (a:R2)(b:Int)(c:Hp)(d:Int->Int->Hp->Prop):Prop:=R1 165 #[.pointer a,.I b] [.I,.I] c d
def Zs.c (a:R2)(b c:Int)(d:Hp)(e:aP):Prop:=R1 166 #[.pointer a,.I b,.I c] [] d e
def X3.c (a:R2)(b:Hp)(c:aO):Prop:=R1 167 #[.pointer a] [.one .b] b c
def Wp.c (a:Sl)(b c:Bool)(d:Hp)(e:aN):Prop:=R1 168 #[.slice a.a a.len a.cap,.agg #[.bool b,.bool c]] [.I] d e
def ZL.c (a b c:Int)(d:Hp)(e:Int->Int->Hp->Prop):Prop:=R1 169 #[.agg #[.I a,.I b,.I c]] [.I,.I] d e
def Xs.c (a:R2)(b:Int)(c:Hp)(d:Option Addr->Int->Hp->Prop):Prop:=R1 170 #[.pointer a,.I b] [.one .p,.I] c d
def WY.c (a:R2)(b:Int)(c:Hp)(d:aN):Prop:=R1 171 #[.pointer a,.I b] [.I] c d
def WB.c (a:R2)(b:Hp)(c:Sl->Int->Hp->Prop):Prop:=R1 172 #[.pointer a] [.one .s,.I] b c
def Xf.c (a:R2)(b:Int)(c:Hp)(d:Sl->Int->Hp->Prop):Prop:=R1 173 #[.pointer a,.I b] [.one .s,.I] c d
def Y3.c (a:R2)(b c d:Int)(e:Hp)(f:Int->Int->Hp->Prop):Prop:=R1 174 #[.pointer a,.I b,.I c,.I d] [.I,.I] e f
def Y6.c (a:R2)(b:Int)(c:Hp)(d:aN):Prop:=R1 175 #[.pointer a,.I b] [.I] c d
def W5.c (a:Sl)(b:Hp)(c:aP):Prop:=R1 176 #[.slice a.a a.len a.cap] [] b c
def W6.c (a:R2)(b:Sl)(c:Hp)(d:aN):Prop:=R1 177 #[.pointer a,.slice b.a b.len b.cap] [.I] c d
def Xg.c (a:R2)(b:Int)(c:Hp)(d:Sl->Hp->Prop):Prop:=R1 178 #[.pointer a,.I b] [.one .s] c d
def XV.c (a:R2)(b:Hp)(c:aN):Prop:=R1 179 #[.pointer a] [.I] b c
def Xl.c (a:R2)(b:Fv)(c:Hp)(d:Sl->Hp->Prop):Prop:=R1 180 #[.pointer a,.func (.func b.f) b.first b.captured] [.one .s] c d
def XB.c (a:R2)(b:Int)(c:Hp)(d:Sl->Hp->Prop):Prop:=R1 181 #[.pointer a,.I b] [.one .s] c d
def WK.c (a:R2)(b:Int)(c:Sl)(d:Hp)(e:Bool->Int->Hp->Prop):Prop:=R1 182 #[.pointer a,.I b,.slice c.a c.len c.cap] [.one .b,.I] d e
def YO.c (a:R2)(b:Int)(c:Hp)(d:Sl->Hp->Prop):Prop:=R1 183 #[.pointer a,.I b] [.one .s] c d
def XP.c (a:R2)(b c:Int)(d:Hp)(e:aN):Prop:=R1 184 #[.pointer a,.I b,.I c] [.I] d e
def Xz.c (a:R2)(b c:Int)(d:Hp)(e:aN):Prop:=R1 185 #[.pointer a,.I b,.I c] [.I] d e
def Ym.c (a:R2)(b c:Int)(d:Hp)(e:aN):Prop:=R1 186 #[.pointer a,.I b,.I c] [.I] d e
def Wf.c (a:Sl)(b:Fv)(c:Hp)(d:Sl->Hp->Prop):Prop:=R1 187 #[.slice a.a a.len a.cap,.func (.func b.f) b.first b.captured] [.one .s] c d
def Yd.c (a b:Int)(c:R2)(d:Addr)(e:Hp)(f:aO):Prop:=R1 188 #[.agg #[.I a,.I b,.pointer c],.pointer (some d)] [.one .b] e f
def ZX.c (a:R2)(b:Hp)(c:Int->Int->Hp->Prop):Prop:=R1 189 #[.pointer a] [.agg [bN,bN]] b c
def XN.c (a:R2)(b:Hp)(c:aN):Prop:=R1 190 #[.pointer a] [.I] b c
def ZO.c (a:Sl)(b:Int)(c:Hp)(d:aN):Prop:=R1 191 #[.slice a.a a.len a.cap,.I b] [.I] c d
def Xk.c (a:R2)(b:Int)(c:Hp)(d:Sl->Hp->Prop):Prop:=R1 192 #[.pointer a,.I b] [.one .s] c d
def WO.c (a:Sl)(b:Fv)(c:Hp)(d:aP):Prop:=R1 193 #[.slice a.a a.len a.cap,.func (.func b.f) b.first b.captured] [] c d
def XJ.c (a b:Int)(c:Addr)(d:Hp)(e:aN):Prop:=R1 194 #[.I a,.I b,.pointer (some c)] [.I] d e
def QR.c (a:Sl)(b:Hp)(c:aN):Prop:=R1 195 #[.slice a.a a.len a.cap] [.I] b c
def Xv.c (a:R2)(b c d:Int)(e:Sl)(f:Hp)(g:aN):Prop:=R1 196 #[.pointer a,.I b,.I c,.I d,.slice e.a e.len e.cap] [.I] f g
def XR.c (a:R2)(b c:Int)(d e:Bool)(f:Hp)(g:aN):Prop:=R1 197 #[.pointer a,.I b,.I c,.agg #[.bool d,.bool e]] [.I] f g
def X6.c (a:R2)(b:Int)(c:Hp)(d:Sl->Hp->Prop):Prop:=R1 198 #[.pointer a,.I b] [.one .s] c d
def XY.c (a:R2)(b:Int)(c:Hp)(d:Sl->Int->Hp->Prop):Prop:=R1 199 #[.pointer a,.I b] [.one .s,.I] c d
def Ks.c (a:Sl)(b:Hp)(c:aO):Prop:=R1 200 #[.slice a.a a.len a.cap] [.one .b] b c
def QI.c (a:Sl)(b:Int)(c:Hp)(d:aP):Prop:=R1 201 #[.slice a.a a.len a.cap,.I b] [] c d
def Yx.c (a:R2)(b c:Int)(d:Hp)(e:aN):Prop:=R1 202 #[.pointer a,.I b,.I c] [.I] d e
def XZ.c (a:R2)(b:Int)(c:Hp)(d:aO):Prop:=R1 203 #[.pointer a,.I b] [.one .b] c d
def Zn.c (a:R2)(b c:Int)(d:Hp)(e:aP):Prop:=R1 204 #[.pointer a,.I b,.I c] [] d e
def XI.c (a:R2)(b:Fv)(c:Hp)(d:Sl->Hp->Prop):Prop:=R1 205 #[.pointer a,.agg #[.func (.func b.f) b.first b.captured]] [.one .s] c d
def XH.c (a:R2)(b:Hp)(c:aN):Prop:=R1 206 #[.pointer a] [.I] b c
def Zc.c (a:R2)(b:Sl)(c:Hp)(d:Sl->Int->Hp->Prop):Prop:=R1 207 #[.pointer a,.slice b.a b.len b.cap] [.one .s,.I] c d
def Ya.c (a:R2)(b:Int)(c:Hp)(d:aN):Prop:=R1 214 #[.pointer a,.I b] [.I] c d
def X0.c (a:R2)(b:Int)(c:Hp)(d:Option Addr->Hp->Prop):Prop:=R1 215 #[.pointer a,.I b] [.one .p] c d
def Yi.c (a:R2)(b:Int)(c:Hp)(d:Int->Int->Hp->Prop):Prop:=R1 216 #[.pointer a,.I b] [.I,.I] c d
def Wx.c (a:R2)(b:Hp)(c:Option Addr->Hp->Prop):Prop:=R1 217 #[.pointer a] [.one .p] b c
def WA.c (a:R2)(b:Hp)(c:Option Addr->Hp->Prop):Prop:=R1 218 #[.pointer a] [.one .p] b c
def ZY.c (a b c:Int)(d:Hp)(e:aN):Prop:=R1 219 #[.agg #[.I a,.I b,.I c]] [.I] d e
def ZH.c (a:R2)(b:Int)(c:Hp)(d:Option Addr->Hp->Prop):Prop:=R1 220 #[.pointer a,.I b] [.one .p] c d
def Y7.c (a:R2)(b:Hp)(c:Int->Bool->Hp->Prop):Prop:=R1 221 #[.pointer a] [.I,.one .b] b c
def XS.c (a:R2)(b c:Int)(d:Hp)(e:Int->Int->Hp->Prop):Prop:=R1 222 #[.pointer a,.I b,.I c] [.I,.I] d e
def Y9.c (a:R2)(b:Int)(c:Hp)(d:aO):Prop:=R1 223 #[.pointer a,.I b] [.one .b] c d
def XL.c (a:R2)(b c:Int)(d:Hp)(e:aN):Prop:=R1 224 #[.pointer a,.I b,.I c] [.I] d e
def Yq.c (a:R2)(b c d:Int)(e:Hp)(f:aN):Prop:=R1 225 #[.pointer a,.I b,.I c,.I d] [.I] e f
def Vi.c (a b c d:Int)(e:Hp)(f:Option Addr->Int->Hp->Prop):Prop:=R1 226 #[.I a,.agg #[.I b,.I c,.I d]] [.one .p,.I] e f
def Wc.c (a:Sl)(b:Int)(c:Fv)(d:Hp)(e:Int->Bool->Hp->Prop):Prop:=R1 227 #[.slice a.a a.len a.cap,.I b,.func (.func c.f) c.first c.captured] [.I,.one .b] d e
def YX.c (a b:Int)(c:R2)(d:Int)(e:Hp)(f:aN):Prop:=R1 228 #[.agg #[.I a,.I b,.pointer c],.I d] [.I] e f
def Wh.c (a:Sl)(b:Int)(c:Sl)(d:Hp)(e:Sl->Hp->Prop):Prop:=R1 229 #[.slice a.a a.len a.cap,.I b,.slice c.a c.len c.cap] [.one .s] d e
def Xp.c (a:Sl)(b:Hp)(c:Sl->Hp->Prop):Prop:=R1 230 #[.slice a.a a.len a.cap] [.one .s] b c
def Qh.c (a:Sl)(b:Fv)(c:Hp)(d:aP):Prop:=R1 231 #[.slice a.a a.len a.cap,.func (.func b.f) b.first b.captured] [] c d
def Xc.c (a:R2)(b:Int)(c:Hp)(d:Bool->Int->Hp->Prop):Prop:=R1 233 #[.pointer a,.I b] [.one .b,.I] c d
def Xe.c (a:R2)(b:Sl)(c:Hp)(d:Bool->Int->Hp->Prop):Prop:=R1 234 #[.pointer a,.slice b.a b.len b.cap] [.one .b,.I] c d
def Yf.c (a:R2)(b c:Int)(d:Hp)(e:aP):Prop:=R1 235 #[.pointer a,.I b,.I c] [] d e
def Wi.c (a:Sl)(b:Fv)(c:Hp)(d:aN):Prop:=R1 236 #[.slice a.a a.len a.cap,.func (.func b.f) b.first b.captured] [.I] c d
def WR.c (a:Sl)(b c d:Int)(e:Fv)(f:Hp)(g:aP):Prop:=R1 237 #[.slice a.a a.len a.cap,.I b,.I c,.I d,.func (.func e.f) e.first e.captured] [] f g
def Wy.c (a:Sl)(b:Fv)(c:Hp)(d:aO):Prop:=R1 238 #[.slice a.a a.len a.cap,.func (.func b.f) b.first b.captured] [.one .b] c d
def YN.c (a:Int)(b:Addr)(c:Hp)(d:aO):Prop:=R1 239 #[.I a,.pointer (some b)] [.one .b] c d
def Wq.c (a:Sl)(b:Int)(c:Hp)(d:aO):Prop:=R1 240 #[.slice a.a a.len a.cap,.I b] [.one .b] c d
def Y5.c (a:R2)(b c:Int)(d:Hp)(e:Sl->Int->Hp->Prop):Prop:=R1 241 #[.pointer a,.I b,.I c] [.one .s,.I] d e
def YY.c (a:R2)(b c:Int)(d e:Bool)(f:Hp)(g:aP):Prop:=R1 242 #[.pointer a,.I b,.I c,.agg #[.bool d,.bool e]] [] f g
def XA.c (a:R2)(b:Int)(c:Hp)(d:Int->Int->Bool->Hp->Prop):Prop:=R1 243 #[.pointer a,.I b] [.I,.I,.one .b] c d
def WQ.c (a:Sl)(b:Hp)(c:Sl->Hp->Prop):Prop:=R1 244 #[.slice a.a a.len a.cap] [.one .s] b c
def ZN.c (a:R2)(b:Int)(c:Hp)(d:aN):Prop:=R1 245 #[.pointer a,.I b] [.I] c d
def YC.c (a:R2)(b:Int)(c:Hp)(d:aN):Prop:=R1 247 #[.pointer a,.I b] [.I] c d
def YI.c (a:R2)(b:Hp)(c:aN):Prop:=R1 248 #[.pointer a] [.I] b c
def W7.c (a b c d:Int)(e:Hp)(f:aO):Prop:=R1 249 #[.agg #[.I a,.I b],.agg #[.I c,.I d]] [.one .b] e f
def ZD.c (a:R2)(b:Hp)(c:Int->Int->Hp->Prop):Prop:=R1 250 #[.pointer a] [.I,.I] b c
def X8.c (a:Sl)(b:Hp)(c:aN):Prop:=R1 251 #[.slice a.a a.len a.cap] [.I] b c
def QJ.c (a:Option Nat)(b:Hp)(c:Fv->Hp->Prop):Prop:=R1 252 #[.map a] [.one .fn] b c
def Zm.c (a:R2)(b c:Int)(d:Hp)(e:aN):Prop:=R1 253 #[.pointer a,.I b,.I c] [.I] d e
def Yw.c (a:R2)(b:Int)(c:Hp)(d:aN):Prop:=R1 254 #[.pointer a,.I b] [.I] c d
def KY.c (a:Sl)(b:Int)(c:Hp)(d:aP):Prop:=R1 256 #[.slice a.a a.len a.cap,.I b] [] c d
def YB.c (a:R2)(b:Int)(c:Hp)(d:Bool->Int->Hp->Prop):Prop:=R1 258 #[.pointer a,.I b] [.one .b,.I] c d
def Zp.c (a:R2)(b c:Int)(d:Hp)(e:aP):Prop:=R1 259 #[.pointer a,.I b,.I c] [] d e
def Wt.c (a:Sl)(b c:Int)(d:Fv)(e:Hp)(f:aP):Prop:=R1 260 #[.slice a.a a.len a.cap,.I b,.I c,.func (.func d.f) d.first d.captured] [] e f
def W1.c (a:Sl)(b:Fv)(c:Hp)(d:aN):Prop:=R1 268 #[.slice a.a a.len a.cap,.func (.func b.f) b.first b.captured] [.I] c d
def WH.c (a:Sl)(b:Int)(c:Hp)(d:aN):Prop:=R1 269 #[.slice a.a a.len a.cap,.I b] [.I] c d
def Yg.c (a:R2)(b:Int)(c:Hp)(d:Int->Int->Hp->Prop):Prop:=R1 270 #[.pointer a,.I b] [.I,.I] c d
def Zl.c (a:R2)(b:Int)(c:Sl)(d:Hp)(e:aP):Prop:=R1 271 #[.pointer a,.I b,.slice c.a c.len c.cap] [] d e
def Wg.c (a:Sl)(b:Fv)(c:Hp)(d:aO):Prop:=R1 273 #[.slice a.a a.len a.cap,.func (.func b.f) b.first b.captured] [.one .b] c d
def YR.c (a b:Bool)(c:Hp)(d:aO):Prop:=R1 274 #[.agg #[.bool a,.bool b]] [.one .b] c d
def Wo.c (a:Sl)(b:Fv)(c:Hp)(d:aN):Prop:=R1 287 #[.slice a.a a.len a.cap,.func (.func b.f) b.first b.captured] [.I] c d
def Z8.c (a:Int)(b:Hp)(c:ByteArray->Hp->Prop):Prop:=R1 314 #[.agg #[.I a]] [.one .str] b c
def Z1.c (a:Int)(b:Hp)(c:ByteArray->Hp->Prop):Prop:=R1 315 #[.agg #[.I a]] [.one .str] b c
def Qc.c (a:Int)(b:Hp)(c:ByteArray->Hp->Prop):Prop:=R1 316 #[.agg #[.I a]] [.one .str] b c
def Z2.c (a:Hp)(b:ByteArray->Hp->Prop):Prop:=R1 317 #[.agg #[]] [.one .str] a b
def Zi.c (a b:Int)(c:Hp)(d:ByteArray->Hp->Prop):Prop:=R1 318 #[.agg #[.I a,.I b]] [.one .str] c d
def Qf.c (a:Hp)(b:ByteArray->Hp->Prop):Prop:=R1 319 #[.agg #[]] [.one .str] a b
def Zz.c (a b:Int)(c:Hp)(d:ByteArray->Hp->Prop):Prop:=R1 320 #[.agg #[.I a,.I b]] [.one .str] c d
def Qb.c (a b:Int)(c:Hp)(d:ByteArray->Hp->Prop):Prop:=R1 321 #[.agg #[.I a,.I b]] [.one .str] c d
def Qt.c (a b:Int)(c:Hp)(d:ByteArray->Hp->Prop):Prop:=R1 322 #[.agg #[.I a,.I b]] [.one .str] c d
def Qd.c (a:Hp)(b:ByteArray->Hp->Prop):Prop:=R1 323 #[.agg #[]] [.one .str] a b
def Qe.c (a b:Int)(c:Hp)(d:ByteArray->Hp->Prop):Prop:=R1 324 #[.agg #[.I a,.I b]] [.one .str] c d
set_option maxRecDepth 100000
def XM.h:Hn:=.q .o1 (.q (.q .o3 .aK) (.q .o7 (.q (.q .o6 (.k (.loop [(20,.I)] (.q .o1 (.q (.c .l .l) (.q (.k (.q .o3 (.cW (.held true [8,11] (.tk [0,1,2,3,4,5] (.all [(6,.all [(7,.all [(8,.take 9 (.take 10 (.all [(11,.done)])))])])])))))) .o2)))))) .aL)))
def XM.v (a:R2)(b:Hp)(c:Option Addr->Hp->Prop):Prop:=XU.c a b λd e=>If (!d) (c none e) (bU a λf=>gO .i64 (f.add 0) e λg=>Nw (.cells #[.I g,.slice none 0 0] 175 (0,0)) e λh i=>bU a λj=>ji (j.add 1) i λk=>WU [bN] (λl=>l 0 i) λm (n:Int) o=>If (n<((k.len:Nat):Int)) (Ix k.a k.len n 1 λp=>lU p o λq=>dP o λr=>bU (some h) λs=>fR r .s (s.add 1) λ(t:Sl)=>QE.c q o λu v=>And (r v) <| Nw (.cells #[.map u] 176 (0,0)) v λw x=>And (r x) <| App t 1 8 176 [.map none] ⟨some w,1,1⟩ x λy z=>bU (some h) λaa=>eP (aa.add 1) (.slice y.a y.len y.cap) z λab=>Ar .i64 (n+1) λac=>m ac ab) (c (some h) o))
theorem XM.o {a b c}(d:XM.v a b c):XM.c a b c:=Wa Tryz.func73 (x:=XM.h) (R0 d)
def XU.h:Hn:=.q .o1 (.q (.cW (.seq [.op,.op,.op,.cY true 5 (RI.ops 5),.op])) .l)
abbrev _root_.aQ(a:Addr)(n:Nat)(h:Hp)(K:Int->Prop):Prop:=gO .i64 (a.add n) h K
abbrev _root_.aR(a:Addr)(n:Nat)(v:Value)(h:Hp)(K:Hp->Prop):Prop:=eP (a.add n) v h K
abbrev _root_.aX(a:Addr)(n:Nat)(h:Hp)(K:Sl->Prop):Prop:=ji (a.add n) h K
abbrev _root_.aY(a:Addr)(n:Nat)(h:Hp)(K:Option Addr->Prop):Prop:=fW (a.add n) h K
abbrev _root_.aZ(a:Addr)(n:Nat)(h:Hp)(K:Bool->Prop):Prop:=kB (a.add n) h K
abbrev _root_.bA(a:Addr)(n:Nat)(h:Hp)(K:Value->Prop):Prop:=xg (a.add n) h K
abbrev _root_.bB(a:Addr)(n:Nat)(h:Hp)(K:Option Nat->Prop):Prop:=lU (a.add n) h K
abbrev _root_.bC(a:Addr)(n:Nat)(h:Hp)(K:ByteArray->Prop):Prop:=wU (a.add n) h K
abbrev _root_.bD(p:Option Addr)(n:Nat)(h:Hp)(K:Int->Prop):Prop:=bU p λa=>gO .i64 (a.add n) h K
abbrev _root_.bE(p:Option Addr)(n:Nat)(h:Hp)(K:Sl->Prop):Prop:=bU p λa=>ji (a.add n) h K
abbrev _root_.bF(p:Option Addr)(n:Nat)(h:Hp)(K:Option Addr->Prop):Prop:=bU p λa=>fW (a.add n) h K
abbrev _root_.bG(p:Option Addr)(n:Nat)(h:Hp)(K:Bool->Prop):Prop:=bU p λa=>kB (a.add n) h K
abbrev _root_.bH(p:Option Addr)(n:Nat)(h:Hp)(K:Value->Prop):Prop:=bU p λa=>xg (a.add n) h K
abbrev _root_.bI(p:Option Addr)(n:Nat)(h:Hp)(K:Option Nat->Prop):Prop:=bU p λa=>lU (a.add n) h K
abbrev _root_.bJ(p:Option Addr)(n:Nat)(h:Hp)(K:ByteArray->Prop):Prop:=bU p λa=>wU (a.add n) h K
abbrev _root_.aS(S:Hp->Prop)(a:Addr)(n:Nat)(K:Int->Prop):Prop:=fR S bN (a.add n) K
abbrev _root_.aT(S:Hp->Prop)(a:Addr)(n:Nat)(K:Sl->Prop):Prop:=fR S .s (a.add n) K
abbrev _root_.aU(S:Hp->Prop)(a:Addr)(n:Nat)(K:Option Addr->Prop):Prop:=fR S .p (a.add n) K
abbrev _root_.bL(e:Int)(K:Int->Prop):Prop:=Ar .i64 e K
abbrev _root_.bM(a:Addr)(h:Hp)(K:Int->Prop):Prop:=gO .i64 a h K
abbrev _root_.aV(c:Array Value)(t:Nat)(h:Hp)(K:Addr->Hp->Prop):Prop:=Nw (.cells c t (0,0)) h K
def XU.v (a:R2)(b:Hp)(c:aO):Prop:=bW (λd e=>c d e) λf=>If (!a.isNone) (bD a 0 b λh=>f (decide (h>0)) b) (f false b)
theorem XU.o {a b c}(d:XU.v a b c):XU.c a b c:=Wa Tryz.func104 (x:=XU.h) (R0 d)
def Kr.h:Hn:=.q .o2 (.q (.q (.cW (.seq [.op,.op,.op,.cY false 2 [.op,.op]])) .aJ) (.q .o4 (.q (.q .o1 (.k (.loop [(5,.I)] (.q (.q .o3 (.c .l .l)) (.q (.k (.o 11)) .o3))))) (.q .o3 .l))))
def Kr.v (a:Int)(b:Hp)(c:Option Addr->Int->Hp->Prop):Prop:=bW (λd e=>If d (c none 1 e) (Nw (.cells #[.I a,.slice none 0 0] 175 (0,0)) e λf g=>WU [bN] (λh=>h 1 g) λi (j:Int) k=>If (j<=a) (bU (some f) λl=>ji (l.add 1) k λm=>Nw (.map #[] 0) k λn o=>Nw (.cells #[.map (some n.block)] 176 (0,0)) o λp q=>App m 1 8 176 [.map none] ⟨some p,1,1⟩ q λr s=>bU (some f) λt=>eP (t.add 1) (.slice r.a r.len r.cap) s λu=>Ar .i64 (j*2) λv=>i v u) (c (some f) 0 k))) λw=>If (a<1) (w true b) (w (decide (a>1024)) b)
theorem Kr.o {a b c}(d:Kr.v a b c):Kr.c a b c:=Wa Tryz.func116 (x:=Kr.h) (R0 d)
def XC.h:Hn:=.q .o1 (.q (.q .o5 (.q .o2 .aJ)) (.q (.q .o2 (.k (.loop [(8,.I)] (.q (.q .o5 (.c .l .l)) (.q (.k (.q .o4 .aK)) .o3))))) (.q .o4 .aM)))
def XC.v (a:R2)(b c:Int)(d:Hp)(e:aN):Prop:=Yx.c a b c d λf g=>If (f != 0) (e f g) (WU [bN] (λh=>h b g) λi (j:Int) k=>bL (b+c) λl=>If (j<l) (XZ.c a j k λm n=>If (!m) (e 4 n) (bL (j+1) λo=>i o n)) (Zn.c a b c k λp=>e 0 p))
theorem XC.o {a b c d e}(f:XC.v a b c d e):XC.c a b c d e:=Wa Tryz.func146 (x:=XC.h) (R0 f)
def Ym.h:Hn:=.q .o1 (.q (.q .o5 (.q .o2 .aJ)) (.q (.q .o2 (.k (.loop [(8,.I)] (.q (.q .o5 (.c .l .l)) (.q (.k (.q .o3 .aK)) .o3))))) (.q .o4 .aM)))
def Ym.v (a:R2)(b c:Int)(d:Hp)(e:aN):Prop:=Yx.c a b c d λf g=>If (f != 0) (e f g) (WU [bN] (λh=>h b g) λi (j:Int) k=>bL (b+c) λl=>If (j<l) (XZ.c a j k λm n=>If m (e 9 n) (bL (j+1) λo=>i o n)) (Yf.c a b c k λp=>e 0 p))
theorem Ym.o {a b c d e}(f:Ym.v a b c d e):Ym.c a b c d e:=Wa Tryz.func186 (x:=Ym.h) (R0 f)
def Yx.h:Hn:=.q .o1 (.q (.k (.q .o4 (.c .aM (.q (.cW (.seq [.op,.op,.op,.cY false 2 [.op,.op],.op,.cY false 6 (RI.ops 6),.op,.cY false 8 (RI.ops 8),.op])) .aK)))) .aM)
def Yx.v (a:R2)(b c:Int)(d:Hp)(e:aN):Prop:=XU.c a d λf g=>If (!f) (e 5 g) (bW (λh i=>bW (λj k=>bW (λl m=>If l (e 1 m) (e 0 m)) λn=>If j (n true k) (bD a 0 k λp=>bL (p-b) λq=>n (decide (c>q)) k)) λr=>If h (r true i) (bD a 0 i λt=>r (decide (b>t)) i)) λu=>If (b<0) (u true g) (u (decide (c<1)) g))
theorem Yx.o {a b c d e}(f:Yx.v a b c d e):Yx.c a b c d e:=Wa Tryz.func202 (x:=Yx.h) (R0 f)
def XZ.h:Hn:=.q .o1 (.q (.q (.cW (.seq [.op,.op,.op,.op,.cY false 2 [.op,.op],.op,.cY false 6 (RI.ops 6)])) .aK) (.q .gE .aL))
def XZ.v (a:R2)(b:Int)(c:Hp)(d:aO):Prop:=XU.c a c λe f=>bW (λg h=>bW (λi j=>If i (d false j) (XA.c a b j λk l m n=>d m n)) λo=>If g (o true h) (bD a 0 h λq=>o (decide (b≥q)) h)) λr=>If (!e) (r true f) (r (decide (b<0)) f)
theorem XZ.o {a b c d}(e:XZ.v a b c d):XZ.c a b c d:=Wa Tryz.func203 (x:=XZ.h) (R0 e)
def Zn.h:Hn:=.q .o2 (.k (.loop [(6,.I)] (.q (.q .o5 (.c .l .l)) (.k (.q .gE (.q .o9 (.q .o5 (.q .o6 (.q (.q .o4 (.q .o3 (.c .o6 .l))) .o2)))))))))
def Zn.v (a:R2)(b c:Int)(d:Hp)(e:aP):Prop:=WU [bN] (λf=>f b d) λg (h:Int) i=>bL (b+c) λj=>If (h<j) (XA.c a h i λk l m n=>bE a 1 n λp=>Ix p.a p.len k 1 λq=>lU q n λr=>nf .i64 .b r l n λs=>Nn k<|bL ((1:Int)*2^(min k.toNat IntKind.i64.bits)) λt=>bL (l+t) λu=>bL (h-l) λv=>Yf.c a l v s λw=>bL (b+c) λx=>If (u>x) (bL (u-x) λy=>Yf.c a x y w λz=>g u z) (g u w)) (e i)
theorem Zn.o {a b c d e}(f:Zn.v a b c d e):Zn.c a b c d e:=Wa Tryz.func204 (x:=Zn.h) (R0 f)
def XS.h:Hn:=.q .o2 (.q (.k (.q .o4 (.c .aL (.q (.cW (.seq [.op,.op,.op,.cY false 2 [.op,.op],.op,.cY false 2 [.op,.op],.op,.cY false 2 [.op,.op],.op,.cY false 5 (RI.ops 5),.op])) .aJ)))) (.q (.q .o6 (.k (.loop [(42,.I)] (.q .o1 (.q (.c .l .l) (.q (.k (.q .o5 (.q (.cW (.seq [.op,.op,.op,.op,.op,.op,.op,.cY true 3 (RI.ops 3)])) (.c (.q .o5 (.q .o4 (.q .o3 .l))) .l)))) .o2)))))) .aL))
def XS.v (a:R2)(b c:Int)(d:Hp)(e:Int->Int->Hp->Prop):Prop:=XU.c a d λf g=>If (!f) (e 0 5 g) (bW (λh i=>bW (λj k=>bW (λl m=>bW (λn o=>If n (e 0 1 o) (bE a 1 o λq=>WU [bN] (λr=>r 0 o) λs (t:Int) u=>If (t<((q.len:Nat):Int)) (Ix q.a q.len t 1 λv=>lU v u λw=>Nn t<|bL ((1:Int)*2^(min t.toNat IntKind.i64.bits)) λx=>bW (λy z=>If y (QJ.c w z λaa ab=>VU.c aa ab λac ad=>X8.c ac ad λae af=>Zn.c a ae b af λag=>e ae 0 ag) (bL (t+1) λah=>s ah z)) λai=>If (x≥(if c>b then c else b)) (qY .i64 .b w u λaj=>ai (decide (aj>0)) u) (ai false u)) (e 0 6 u))) λak=>If l (ak true m) (bL (c-1) λal=>ak ((bits .and .i64 c al) != 0) m)) λam=>If j (am true k) (am (decide (c>1024)) k)) λan=>If h (an true i) (an (decide (c<1)) i)) λao=>If (b<1) (ao true g) (ao (decide (b>1024)) g))
theorem XS.o {a b c d e}(f:XS.v a b c d e):XS.c a b c d e:=Wa Tryz.func222 (x:=XS.h) (R0 f)
def Yf.h:Hn:=.k (.loop [(1,.I),(2,.I)] (.q (.q .o2 (.c .l .l)) (.k (.q .o1 (.q (.k (.loop [(6,.I)] (.q (.q (.cW (.seq [.op,.op,.op,.op,.op,.op,.op,.op,.op,.op,.cY true 5 (RI.ops 5)])) (.c .l .l)) (.k .o3)))) (.q .o4 (.oq 10)))))))
def Yf.v (a:R2)(b c:Int)(d:Hp)(e:aP):Prop:=WU [bN,bN] (λf=>f b c d) λg (h:Int) (i:Int) j=>If (i>0) (WU [bN] (λk=>k 0 j) λl (m:Int) n=>bL (m+1) λo=>Nn o <| bL (m+1) λp=>Nn p<|bL ((h.fdiv (2^(min o.toNat IntKind.i64.bits)))*2^(min p.toNat IntKind.i64.bits)) λq=>bW (λr s=>If r (bL (m+1) λt=>l t s) (Zp.c a m h s λu=>Nn m<|bL ((1:Int)*2^(min m.toNat IntKind.i64.bits)) λv=>bL (h+v) λw=>Nn m<|bL ((1:Int)*2^(min m.toNat IntKind.i64.bits)) λx=>bL (i-x) λy=>g w y u)) λz=>If (q==h) (bL (m+1) λaa=>Nn aa<|bL ((1:Int)*2^(min aa.toNat IntKind.i64.bits)) λab=>z (decide (ab<=i)) n) (z false n)) (e j)
theorem Yf.o {a b c d e}(f:Yf.v a b c d e):Yf.c a b c d e:=Wa Tryz.func235 (x:=Yf.h) (R0 f)
def XA.h:Hn:=.q .o3 (.q (.q .o6 (.k (.loop [(15,.I)] (.q .o1 (.q (.c .l .l) (.q (.k (.q .o5 (.q .o6 (.q .o3 (.c (.q .o5 .l) .l))))) .o2)))))) (.q .o3 .l))
def XA.v (a:R2)(b:Int)(c:Hp)(d:Int->Int->Bool->Hp->Prop):Prop:=bE a 1 c λf=>WU [bN] (λg=>g 0 c) λh (i:Int) j=>If (i<((f.len:Nat):Int)) (Ix f.a f.len i 1 λk=>lU k j λl=>Nn i <| Nn i<|bL ((b.fdiv (2^(min i.toNat IntKind.i64.bits)))*2^(min i.toNat IntKind.i64.bits)) λm=>Lk .i64 .b l m j λn=>If (n.getD false) (d i m true j) (bL (i+1) λo=>h o j)) (d 0 0 false j)
theorem XA.o {a b c d}(e:XA.v a b c d):XA.c a b c d:=Wa Tryz.func243 (x:=XA.h) (R0 e)
def Zp.h:Hn:=.q (.k (.loop [(1,.I),(2,.I)] (.q (.q (.cW (.quiet [.op,.op,.op,.op,.op,.op,.op,.op,.op,.cY true 12 (RI.ops 12)])) (.c .l .l)) (.k (.q (.cW (.tail 11 (RI.ops 11) [.op])) (.q .o8 .o3)))))) .o9
def Zp.v (a:R2)(b c:Int)(d:Hp)(e:aP):Prop:=WU [bN,bN] (λf=>f b c d) λg (h:Int) (i:Int) j=>bL (h+1) λk=>bE a 1 j λm=>bW (λn o=>If n (bE a 1 o λq=>Ix q.a q.len h 1 λr=>lU r o λs=>Nn h<|bL ((1:Int)*2^(min h.toNat IntKind.i64.bits)) λt=>nf .i64 .b s (bits .xor .i64 i t) o λu=>bL (h+1) λv=>Nn v <| bL (h+1) λw=>Nn w<|bL ((i.fdiv (2^(min v.toNat IntKind.i64.bits)))*2^(min w.toNat IntKind.i64.bits)) λx=>bL (h+1) λy=>g y x u) (bE a 1 o λaa=>Ix aa.a aa.len h 1 λab=>lU ab o λac=>jS .i64 .b ac i true o λad=>e ad)) λae=>If (k<((m.len:Nat):Int)) (bE a 1 j λag=>Ix ag.a ag.len h 1 λah=>lU ah j λai=>Nn h<|bL ((1:Int)*2^(min h.toNat IntKind.i64.bits)) λaj=>Lk .i64 .b ai (bits .xor .i64 i aj) j λak=>ae (ak.getD false) j) (ae false j)
theorem Zp.o {a b c d e}(f:Zp.v a b c d e):Zp.c a b c d e:=Wa Tryz.func259 (x:=Zp.h) (R0 f)
end Go.Proofs
namespace Go.Vc
open Go
variable {ro:Option Nat}{m0:Nat}
end Go.Vc
namespace Go.Vc
open Go
variable {ro:Option Nat}{m0:Nat}{P:Program}
def Act.wd (a:Act)(ds:List Deferred):Act:={a with defers:=ds}
structure wT (ds:List Deferred) (N:Nat) (ρ:Env) (a:Act):Prop where
 f:Fits N ρ (Act.wd a [])
 d:a.defers=ds
theorem wT.ev {ds:List Deferred}{N:Nat}{ρ:Env}{a:Act}(h:wT ds N ρ a):∀x v,ev ρ x=some v->a.eval x=v:=λx v b=>h.f.ev x v b
end Go.Vc
namespace Go.Vc
open Go
variable {m0:Nat}{P:Program}
def e1 (c:CK)(y:c.T):List Value:=[c.v y]
def e2 (c d:CK)(y:c.T×d.T):List Value:=[c.v y.1,d.v y.2]
end Go.Vc
namespace Go.Proofs
open Go.Vc
set_option maxRecDepth 100000
def Wb.h:Hn:=.q .o1 (.q (.q .o2 .aK) (.q .o4 .l))
def Wb.v (a:Sl)(b:Hp)(c:Sl->Hp->Prop):Prop:=If a.a.isNone (c ⟨none,0,0⟩ b) (aV #[] 85 b λd e=>App ⟨some d,0,0⟩ 3 24 85 [.I 0,.I 0,.I 0] a e λf g=>c f g)
theorem Wb.o {a b c}(d:Wb.v a b c):Wb.c a b c:=Wa Tryz.func42 (x:=Wb.h) (R0 d)
def Wk.h:Hn:=.q .o1 (.q (.q .o2 .aK) (.q .o4 .l))
def Wk.v (a:Sl)(b:Hp)(c:Sl->Hp->Prop):Prop:=If a.a.isNone (c ⟨none,0,0⟩ b) (aV #[] 3 b λd e=>App ⟨some d,0,0⟩ 1 8 3 [.I 0] a e λf g=>c f g)
theorem Wk.o {a b c}(d:Wk.v a b c):Wk.c a b c:=Wa Tryz.func47 (x:=Wk.h) (R0 d)
def Wn.h:Hn:=.q .o1 (.q (.q .o3 (.k (.loop [(8,.I)] (.q .o1 (.q (.c .l .l) (.q (.k (.q .o2 (.q .o6 .aJ))) .o2)))))) .aM)
def Wn.v (a:Sl)(b:Fv)(c:Hp)(d:aN):Prop:=WU [bN] (λe=>e 0 c) λf (g:Int) h=>If (g<((a.len:Nat):Int)) (Ix a.a a.len g 3 λi=>aQ i 0 h λj=>aQ i 1 h λk=>aQ i 2 h λl=>UE Tryz.prog b [.agg #[.I j,.I k,.I l]] [.one .b] h λm n=>If m (d g n) (bL (g+1) λo=>f o n)) (d (-1) h)
theorem Wn.o {a b c d}(e:Wn.v a b c d):Wn.c a b c d:=Wa Tryz.func96 (x:=Wn.h) (R0 e)
def ZZ.h:Hn:=.q .o1 (.q (.c .l .l) (.q .o3 .l))
def ZZ.v (a:Int)(b:Hp)(c:aN):Prop:=ZJ.c a b λd e=>c d e
theorem ZZ.o {a b c}(d:ZZ.v a b c):ZZ.c a b c:=Wa Tryz.func100 (x:=ZZ.h) (R0 d)
def Wj.h:Hn:=.q .o2 (.q .o5 .l)
def Wj.v (a:Sl)(b c:Bool)(d:Hp)(e:aO):Prop:=aV #[.bool b,.bool c] 199 d λf g=>aZ f 0 g λh=>aZ f 1 g λi=>Wp.c a h i g λj k=>e (decide (j≥0)) k
theorem Wj.o {a b c d e}(f:Wj.v a b c d e):Wj.c a b c d e:=Wa Tryz.func114 (x:=Wj.h) (R0 f)
def Wr.h:Hn:=.q .o1 (.q (.q .o2 .aK) (.q .o4 .l))
def Wr.v (a:Sl)(b:Hp)(c:Sl->Hp->Prop):Prop:=If a.a.isNone (c ⟨none,0,0⟩ b) (aV #[] 98 b λd e=>App ⟨some d,0,0⟩ 2 32 98 [.I 0,.slice none 0 0] a e λf g=>c f g)
theorem Wr.o {a b c}(d:Wr.v a b c):Wr.c a b c:=Wa Tryz.func135 (x:=Wr.h) (R0 d)
def ZJ.h:Hn:=.q .o1 (.j8 [(0,.one (.i .u64)),(2,.I)] (.q .o2 (.c (.q .o3 .o1) .l)) (.j8 [(0,.one (.i .u64)),(2,.I)] (.q .o2 (.c (.q .o3 .o3) .l)) (.j8 [(0,.one (.i .u64)),(2,.I)] (.q .o2 (.c (.q .o3 .o3) .l)) (.q .o7 .l))))
def ZJ.v (a:Int)(b:Hp)(c:aN):Prop:=Jn [(.i .u64),bN] (λ(d:Int) (e:Int) f=>Jn [(.i .u64),bN] (λ(g:Int) (h:Int) i=>Jn [(.i .u64),bN] (λ(j:Int) (k:Int) l=>Ar .u8 j λm=>Ci (ByteArray.mk #[0,1,2,2,3,3,3,3,4,4,4,4,4,4,4,4,5,5,5,5,5,5,5,5,5,5,5,5,5,5,5,5,6,6,6,6,6,6,6,6,6,6,6,6,6,6,6,6,6,6,6,6,6,6,6,6,6,6,6,6,6,6,6,6,7,7,7,7,7,7,7,7,7,7,7,7,7,7,7,7,7,7,7,7,7,7,7,7,7,7,7,7,7,7,7,7,7,7,7,7,7,7,7,7,7,7,7,7,7,7,7,7,7,7,7,7,7,7,7,7,7,7,7,7,7,7,7,7,8,8,8,8,8,8,8,8,8,8,8,8,8,8,8,8,8,8,8,8,8,8,8,8,8,8,8,8,8,8,8,8,8,8,8,8,8,8,8,8,8,8,8,8,8,8,8,8,8,8,8,8,8,8,8,8,8,8,8,8,8,8,8,8,8,8,8,8,8,8,8,8,8,8,8,8,8,8,8,8,8,8,8,8,8,8,8,8,8,8,8,8,8,8,8,8,8,8,8,8,8,8,8,8,8,8,8,8,8,8,8,8,8,8,8,8,8,8,8,8,8,8,8,8,8,8,8,8]) m λn=>bL n λo=>bL (k+o) λp=>c p l) λq=>If (g≥256) (Nn (8:Int) <| bL (h+8) λr=>q (g.fdiv (2^(min (8:Int).toNat IntKind.u64.bits))) r i) (q g h i)) λs=>If (d≥65536) (Nn (16:Int) <| bL (e+16) λt=>s (d.fdiv (2^(min (16:Int).toNat IntKind.u64.bits))) t f) (s d e f)) λu=>If (a≥4294967296) (Nn (32:Int) <| u (a.fdiv (2^(min (32:Int).toNat IntKind.u64.bits))) 32 b) (u a 0 b)
theorem ZJ.o {a b c}(d:ZJ.v a b c):ZJ.c a b c:=Wa Tryz.func160 (x:=ZJ.h) (R0 d)
def Wl.h:Hn:=.q .o1 (.q (.q .o3 (.k (.loop [(8,.I)] (.q .o1 (.q (.c .l .l) (.q (.k (.q .o2 (.q .o6 .aJ))) .o2)))))) .aM)
def Wl.v (a:Sl)(b:Fv)(c:Hp)(d:aN):Prop:=WU [bN] (λe=>e 0 c) λf (g:Int) h=>If (g<((a.len:Nat):Int)) (Ix a.a a.len g 1 λi=>fW i h λj=>UE Tryz.prog b [.pointer j] [.one .b] h λk l=>If k (d g l) (bL (g+1) λm=>f m l)) (d (-1) h)
theorem Wl.o {a b c d}(e:Wl.v a b c d):Wl.c a b c d:=Wa Tryz.func161 (x:=Wl.h) (R0 e)
def Wp.h:Hn:=.q .o2 (.q (.q .o3 (.k (.loop [(8,.I)] (.q .o1 (.q (.c .l .l) (.q (.k (.q .o2 (.q (.oq 6) .aJ))) .o2)))))) .aM)
def Wp.v (a:Sl)(b c:Bool)(d:Hp)(e:aN):Prop:=aV #[.bool b,.bool c] 199 d λf g=>WU [bN] (λh=>h 0 g) λi (j:Int) k=>If (j<((a.len:Nat):Int)) (aZ f 0 k λl=>aZ f 1 k λm=>Ix a.a a.len j 2 λn=>aZ n 0 k λo=>aZ n 1 k λp=>If ((l==o)&&((m==p)&&true)) (e j k) (bL (j+1) λq=>i q k)) (e (-1) k)
theorem Wp.o {a b c d e}(f:Wp.v a b c d e):Wp.c a b c d e:=Wa Tryz.func168 (x:=Wp.h) (R0 f)
def W5.h:Hn:=.q .o5 (.k (.loop [(2,.I),(3,.I)] (.q (.q .o3 (.c .l .l)) (.q (.k (.cW (.held true [13,15] (.tk [0,1,2,3,4,5,6,7,8,9,10,11,12] (.all [(13,.take 14 (.all [(15,.done)]))]))))) .o6))))
def W5.v (a:Sl)(b:Hp)(c:aP):Prop:=bL (((a.len:Nat):Int)-1) λd=>WU [bN,bN] (λe=>e 0 d b) λf (g:Int) (h:Int) i=>If (g<h) (dP i λj=>Ix a.a a.len h 1 λk=>fR j bN k λ(l:Int)=>Ix a.a a.len g 1 λm=>fR j bN m λ(n:Int)=>Ix a.a a.len g 1 λo=>eP o (.I l) i λp=>Ix a.a a.len h 1 λq=>eP q (.I n) p λr=>bL (g+1) λs=>bL (h-1) λt=>f s t r) (c i)
theorem W5.o {a b c}(d:W5.v a b c):W5.c a b c:=Wa Tryz.func176 (x:=W5.h) (R0 d)
def Wf.h:Hn:=.q .o1 (.q .o4 (.q (.q .o2 .aJ) (.q (.q .o3 (.k (.loop [(5,.I),(6,.I)] (.q (.q .o4 (.c .l .l)) (.q (.k (.q .o6 (.q .o4 (.c (.q .o5 .o3) .l)))) .o3))))) (.q .o4 (.q .o4 .l)))))
def Wf.v (a:Sl)(b:Fv)(c:Hp)(d:Sl->Hp->Prop):Prop:=Wi.c a b c λe f=>If (e==(-1)) (d a f) (bL (e+1) λg=>WU [bN,bN] (λh=>h e g f) λi (j:Int) (k:Int) l=>If (k<((a.len:Nat):Int)) (Ix a.a a.len k 3 λm=>aQ m 0 l λn=>aQ m 1 l λo=>aY m 2 l λp=>aV #[.I 0,.I 0,.pointer none] 192 l λq r=>aR q 0 (.I n) r λs=>aR q 1 (.I o) s λt=>aR q 2 (.pointer p) t λu=>aQ q 0 u λv=>aQ q 1 u λw=>aY q 2 u λx=>UE Tryz.prog b [.agg #[.I v,.I w,.pointer x]] [.one .b] u λy z=>If (!y) (aQ q 0 z λaa=>aQ q 1 z λab=>aY q 2 z λac=>Ix a.a a.len j 3 λad=>aR ad 0 (.I aa) z λae=>aR ad 1 (.I ab) ae λaf=>aR ad 2 (.pointer ac) af λag=>bL (j+1) λah=>bL (k+1) λai=>i ah ai ag) (bL (k+1) λaj=>i j aj z)) (fE a 3 j (a.len:Nat) (a.cap:Nat) λak=>CL ak [.I 0,.I 0,.pointer none] l λal=>fE a 3 0 j (a.cap:Nat) λam=>d am al))
theorem Wf.o {a b c d}(e:Wf.v a b c d):Wf.c a b c d:=Wa Tryz.func187 (x:=Wf.h) (R0 e)
def WO.h:Hn:=.q .o3 .o7
def WO.v (a:Sl)(b:Fv)(c:Hp)(d:aP):Prop:=Ar .u64 ((a.len:Nat):Int) λe=>ZZ.c e c λf g=>WR.c a 0 ((a.len:Nat):Int) f b g λh=>d h
theorem WO.o {a b c d}(e:WO.v a b c d):WO.c a b c d:=Wa Tryz.func193 (x:=WO.h) (R0 e)
def Wc.h:Hn:=.q .o2 (.q .o3 (.q .o3 (.q (.k (.loop [(9,.I),(10,.I)] (.q (.q .o3 (.c .l .l)) (.k (.q .o7 (.q .o8 (.c .o3 .o2))))))) (.q (.cW (.seq [.op,.op,.op,.op,.op,.cY true 8 (RI.ops 8),.op,.op])) .l))))
def Wc.v (a:Sl)(b:Int)(c:Fv)(d:Hp)(e:Int->Bool->Hp->Prop):Prop:=WU [bN,bN] (λf=>f 0 ((a.len:Nat):Int) d) λg (h:Int) (i:Int) j=>If (h<i) (bL (h+i) λk=>Ar .u64 k λl=>Nn (1:Int) <| bL (l.fdiv (2^(min (1:Int).toNat IntKind.u64.bits))) λm=>Ix a.a a.len m 3 λn=>aQ n 0 j λo=>aQ n 1 j λp=>aY n 2 j λq=>UE Tryz.prog c [.agg #[.I o,.I p,.pointer q],.I b] [.I] j λr s=>If (r<0) (bL (m+1) λt=>g t i s) (g h m s)) (bW (λu v=>e h u v) λw=>If (h<((a.len:Nat):Int)) (Ix a.a a.len h 3 λx=>aQ x 0 j λy=>aQ x 1 j λz=>aY x 2 j λaa=>UE Tryz.prog c [.agg #[.I y,.I z,.pointer aa],.I b] [.I] j λab ac=>w (ab==0) ac) (w false j))
theorem Wc.o {a b c d e}(f:Wc.v a b c d e):Wc.c a b c d e:=Wa Tryz.func227 (x:=Wc.h) (R0 f)
def Wh.h:Hn:=.q .o1 (.q .o3 (.q .o3 (.q (.q .o2 .aJ) (.q .o3 (.q (.q .o3 (.c (.q .o4 .l) .l)) (.q (.q .o6 (.c (.q .gE (.q .o5 (.q (.cW (.tail 8 (RI.ops 8) [.op])) .aL))) .l)) (.q .o6 (.q (.q .o8 (.c (.q (.cW (.tail 8 (RI.ops 8) [.op])) (.q .o5 .aL)) .l)) (.q .o5 (.q .o5 .aL))))))))))
def Wh.v (a:Sl)(b:Int)(c:Sl)(d:Hp)(e:Sl->Hp->Prop):Prop:=fE a 3 b (a.len:Nat) (a.cap:Nat) λf=>If (((c.len:Nat):Int)==0) (e a d) (If (b==((a.len:Nat):Int)) (App a 3 24 192 [.I 0,.I 0,.pointer none] c d λg h=>e g h) (bL (((a.len:Nat):Int)+((c.len:Nat):Int)) λi=>If (i>((a.cap:Nat):Int)) (fE a 3 0 b (a.cap:Nat) λj=>bL (((a.len:Nat):Int)+((c.len:Nat):Int)) λk=>bL (k-b) λl=>tX j 3 24 192 [.I 0,.I 0,.pointer none] l d λm n=>fE m 3 b (m.len:Nat) (m.cap:Nat) λo=>rG o 3 c n λp q=>bL (b+((c.len:Nat):Int)) λr=>fE m 3 r (m.len:Nat) (m.cap:Nat) λs=>fE a 3 b (a.len:Nat) (a.cap:Nat) λt=>rG s 3 t q λu v=>e m v) (bL (((a.len:Nat):Int)+((c.len:Nat):Int)) λw=>fE a 3 0 w (a.cap:Nat) λx=>bL (b+((c.len:Nat):Int)) λy=>fE x 3 y (x.len:Nat) (x.cap:Nat) λz=>tK Tryz.prog 255 [.slice c.a c.len c.cap,.slice z.a z.len z.cap] d λaa ab=>If (!aa) (bL (b+((c.len:Nat):Int)) λac=>fE x 3 ac (x.len:Nat) (x.cap:Nat) λad=>fE x 3 b (x.len:Nat) (x.cap:Nat) λae=>rG ad 3 ae ab λaf ag=>fE x 3 b (x.len:Nat) (x.cap:Nat) λah=>rG ah 3 c ag λai aj=>e x aj) (fE x 3 ((a.len:Nat):Int) (x.len:Nat) (x.cap:Nat) λak=>rG ak 3 c ab λal am=>fE x 3 b (x.len:Nat) (x.cap:Nat) λan=>KY.c an ((c.len:Nat):Int) am λao=>e x ao))))
theorem Wh.o {a b c d e}(f:Wh.v a b c d e):Wh.c a b c d e:=Wa Tryz.func229 (x:=Wh.h) (R0 f)
def Xp.h:Hn:=.q .o1 (.q .o7 .l)
def Xp.v (a:Sl)(b:Hp)(c:Sl->Hp->Prop):Prop:=fE a 1 0 ((a.len:Nat):Int) ((a.len:Nat):Int) λd=>c d b
theorem Xp.o {a b c}(d:Xp.v a b c):Xp.c a b c:=Wa Tryz.func230 (x:=Xp.h) (R0 d)
def Wi.h:Hn:=.q .o1 (.q (.q .o3 (.k (.loop [(8,.I)] (.q .o1 (.q (.c .l .l) (.q (.k (.q .o2 (.q .o6 .aJ))) .o2)))))) .aM)
def Wi.v (a:Sl)(b:Fv)(c:Hp)(d:aN):Prop:=WU [bN] (λe=>e 0 c) λf (g:Int) h=>If (g<((a.len:Nat):Int)) (Ix a.a a.len g 3 λi=>aQ i 0 h λj=>aQ i 1 h λk=>aY i 2 h λl=>UE Tryz.prog b [.agg #[.I j,.I k,.pointer l]] [.one .b] h λm n=>If m (d g n) (bL (g+1) λo=>f o n)) (d (-1) h)
theorem Wi.o {a b c d}(e:Wi.v a b c d):Wi.c a b c d:=Wa Tryz.func236 (x:=Wi.h) (R0 e)
def Wy.h:Hn:=.q .o1 (.q .o5 .l)
def Wy.v (a:Sl)(b:Fv)(c:Hp)(d:aO):Prop:=W1.c a b c λe f=>d (decide (e≥0)) f
theorem Wy.o {a b c d}(e:Wy.v a b c d):Wy.c a b c d:=Wa Tryz.func238 (x:=Wy.h) (R0 e)
def Wq.h:Hn:=.q .o1 (.q .o5 .l)
def Wq.v (a:Sl)(b:Int)(c:Hp)(d:aO):Prop:=WH.c a b c λe f=>d (decide (e≥0)) f
theorem Wq.o {a b c d}(e:Wq.v a b c d):Wq.c a b c d:=Wa Tryz.func240 (x:=Wq.h) (R0 e)
def WQ.h:Hn:=.q .o1 (.q (.q .o2 .aK) (.q .o4 .l))
def WQ.v (a:Sl)(b:Hp)(c:Sl->Hp->Prop):Prop:=If a.a.isNone (c ⟨none,0,0⟩ b) (aV #[] 27 b λd e=>App ⟨some d,0,0⟩ 1 24 27 [.slice none 0 0] a e λf g=>c f g)
theorem WQ.o {a b c}(d:WQ.v a b c):WQ.c a b c:=Wa Tryz.func244 (x:=WQ.h) (R0 d)
def X8.h:Hn:=.q .o1 (.j8 [] (.q .o3 (.c .o2 .l)) (.q .o4 (.q (.q .o1 (.k (.loop [(3,.I),(4,.I)] (.q (.q .o4 (.c .l .l)) (.q (.k .o7) .o3))))) .aL)))
def X8.v (a:Sl)(b:Hp)(c:aN):Prop:=Jn [] (λd=>Ix a.a a.len 0 1 λe=>bM e d λf=>WU [bN,bN] (λg=>g f 1 d) λh (i:Int) (j:Int) k=>If (j<((a.len:Nat):Int)) (Ix a.a a.len j 1 λl=>bM l k λm=>bL (j+1) λn=>h (if m<i then m else i) n k) (c i k)) λo=>If (((a.len:Nat):Int)<1) (False) (o b)
theorem X8.o {a b c}(d:X8.v a b c):X8.c a b c:=Wa Tryz.func251 (x:=X8.h) (R0 d)
def Wt.h:Hn:=.q .o3 (.k (.loop [(8,.I)] (.q (.q .o3 (.c .l .l)) (.q (.k (.q .o2 (.k (.loop [(9,.I)] (.q (.q (.cW (.gM true [14] [(34,.one .b)] (.tk [0,1,2,3] (.split 21 (.tk [4,5,6,7,8,9,10,11,12,13] (.all [(14,.take 15 (.take 16 (.done)))])) (.take 4 (.take 5 (.take 6 (.take 7 (.take 8 (.take 9 (.take 10 (.take 11 (.take 12 (.take 13 (.all [(14,.take 15 (.take 16 (.done)))]))))))))))))))) (.c .l .l)) (.q (.k (.cW (.held true [15,17] (.take 0 (.take 1 (.take 2 (.take 3 (.take 4 (.take 5 (.take 6 (.take 7 (.take 8 (.take 9 (.take 10 (.take 11 (.take 12 (.take 13 (.take 14 (.all [(15,.take 16 (.all [(17,.done)]))]))))))))))))))))))) .o3)))))) .o3))))
def Wt.v (a:Sl)(b c:Int)(d:Fv)(e:Hp)(f:aP):Prop:=bL (b+1) λg=>WU [bN] (λh=>h g e) λi (j:Int) k=>If (j<c) (WU [bN] (λl=>l j k) λm (n:Int) o=>Jn [.b] (λ(p:Bool) q=>If p (dP q λr=>bL (n-1) λs=>bL (n-1) λt=>Ix a.a a.len t 1 λu=>fR r bN u λ(v:Int)=>Ix a.a a.len n 1 λw=>fR r bN w λ(x:Int)=>Ix a.a a.len n 1 λy=>eP y (.I v) q λz=>Ix a.a a.len s 1 λaa=>eP aa (.I x) z λab=>bL (n-1) λac=>m ac ab) (bL (j+1) λad=>i ad q)) λae=>dP o λaf=>If (n>b) (Ix a.a a.len n 1 λag=>fR af bN ag λ(ah:Int)=>bL (n-1) λai=>Ix a.a a.len ai 1 λaj=>fR af bN aj λ(ak:Int)=>UE Tryz.prog d [.I ah,.I ak] [.I] o λal am=>ae (decide (al<0)) am) (ae false o)) (f k)
theorem Wt.o {a b c d e f}(g:Wt.v a b c d e f):Wt.c a b c d e f:=Wa Tryz.func260 (x:=Wt.h) (R0 g)
def W1.h:Hn:=.q .o1 (.q (.q .o3 (.k (.loop [(8,.I)] (.q .o1 (.q (.c .l .l) (.q (.k (.q .o2 (.q .o6 .aJ))) .o2)))))) .aM)
def W1.v (a:Sl)(b:Fv)(c:Hp)(d:aN):Prop:=WU [bN] (λe=>e 0 c) λf (g:Int) h=>If (g<((a.len:Nat):Int)) (Ix a.a a.len g 1 λi=>bM i h λj=>UE Tryz.prog b [.I j] [.one .b] h λk l=>If k (d g l) (bL (g+1) λm=>f m l)) (d (-1) h)
theorem W1.o {a b c d}(e:W1.v a b c d):W1.c a b c d:=Wa Tryz.func268 (x:=W1.h) (R0 e)
def WH.h:Hn:=.q .o1 (.q (.q .o3 (.k (.loop [(8,.I)] (.q .o1 (.q (.c .l .l) (.q (.k (.q .o2 (.q .o6 .aJ))) .o2)))))) .aM)
def WH.v (a:Sl)(b:Int)(c:Hp)(d:aN):Prop:=WU [bN] (λe=>e 0 c) λf (g:Int) h=>If (g<((a.len:Nat):Int)) (Ix a.a a.len g 1 λi=>bM i h λj=>If (b==j) (d g h) (bL (g+1) λk=>f k h)) (d (-1) h)
theorem WH.o {a b c d}(e:WH.v a b c d):WH.c a b c d:=Wa Tryz.func269 (x:=WH.h) (R0 e)
def Wg.h:Hn:=.q .o1 (.q .o5 .l)
def Wg.v (a:Sl)(b:Fv)(c:Hp)(d:aO):Prop:=Wo.c a b c λe f=>d (decide (e≥0)) f
theorem Wg.o {a b c d}(e:Wg.v a b c d):Wg.c a b c d:=Wa Tryz.func273 (x:=Wg.h) (R0 e)
def Wo.h:Hn:=.q .o1 (.q (.q .o3 (.k (.loop [(8,.I)] (.q .o1 (.q (.c .l .l) (.q (.k (.q .o2 (.q .o6 .aJ))) .o2)))))) .aM)
def Wo.v (a:Sl)(b:Fv)(c:Hp)(d:aN):Prop:=WU [bN] (λe=>e 0 c) λf (g:Int) h=>If (g<((a.len:Nat):Int)) (Ix a.a a.len g 2 λi=>aZ i 0 h λj=>aZ i 1 h λk=>UE Tryz.prog b [.agg #[.bool j,.bool k]] [.one .b] h λl m=>If l (d g m) (bL (g+1) λn=>f n m)) (d (-1) h)
theorem Wo.o {a b c d}(e:Wo.v a b c d):Wo.c a b c d:=Wa Tryz.func287 (x:=Wo.h) (R0 e)
end Go.Proofs
namespace Go.Bu
open Go Go.Vc Go.Proofs
variable {U:Hp}{p n sb:Nat}{S:Nat->Bool}{ms:List Nat}
theorem mO {k:Nat}{K:Int->Prop}(hk:k<=62)(hK:K ((2^k:Nat):Int)):Nn (k:Int) (Ar .i64 (1*2^(min (k:Int).toNat IntKind.i64.bits)) K):=by
 refine nn O ?_;rw[Eo hk];exact cC aA (IQ hk) hK
theorem tY {x k j:Nat}{K:Int->Prop}(hj:j=k)(hk:k<=62)(hx:x<=4611686018427387904)(hK:K ((x/2^k*2^k:Nat):Int)) :
 Ar .i64 (((x:Int).fdiv (2^(min (k:Int).toNat IntKind.i64.bits)))*2^(min (j:Int).toNat IntKind.i64.bits)) K:=by
 subst hj;rw[Eo hk,JI];refine cC aA ?_ hK;exact zP (yf _ _) hx
theorem BH.rN (h:BH U p n S sb ms){K:Int->Prop}(hK:K (n:Int)):gO .i64 (Addr.add ⟨p,0,none⟩ 0) U K:=hO h.RF hK
theorem BH.rB (h:BH U p n S sb ms){K:Sl->Prop}(hK:∀cap,K ⟨some ⟨sb,0,none⟩,ms.length,cap⟩):ji (Addr.add ⟨p,0,none⟩ 1) U K:=by
 obtain⟨cap,a⟩:=h.lB;rw[add_lit];exact nR a (hK cap)
theorem BH.rM (h:BH U p n S sb ms){k m:Nat}(hm:ms[k]?=some m){K:Option Nat->Prop}(hK:K (some m)):Ix (some ⟨sb,0,none⟩) ms.length (k:Int) 1 λa=>lU a U K:=by
 refine ix O (by have:=(cV.1 hm).1;omega) ?_;rw[add_lit];refine FN ?_ hK;have:=h.Tl hm;simpa using this
theorem yk (h:BH U p n S sb ms){R:aO}(hR:R true U):XU.c (aW p) U R:=by
 refine XU.o ?_;unfold XU.v;refine bW.intro (cJ rfl (bO (h.rN ?_)));have:=h.n1;rw[zI O];exact hR
def YS (n:Nat)(start bK:Int):Bool:=decide (0<=start)&&(decide (1<=bK)&&decide (bK<=n-start))
theorem D0 (h:BH U p n S sb ms)(start bK:Int){R:aN}(h0:YS n start bK=true->R 0 U)(h1:YS n start bK=false->R 1 U):Yx.c (aW p) start bK U R:=by
 refine Yx.o ?_;unfold Yx.v;have a:¬(0<=start/\1<=bK/\bK<=n-start)->R 1 U:=λd=>h1 (by simp only[YS,←uF];exact zJ d);have n1:=h.n1;have n2:=h.n2;refine yk h (bZ rfl (bW.intro ?_));refine cL (λh1=>bW.intro (cJ rfl (bW.intro (cJ rfl (cJ rfl (a O)))))) λh1=>?_;refine bW.intro (cL (λg=>bW.intro (cJ rfl (cJ rfl (a O)))) λg=>?_);refine bO (h.rN ?_);refine bW.intro (cL (λe=>cJ rfl (a O)) λe=>?_);refine bO (h.rN (ar O O ?_));refine cL (λb=>a O) λb=>h0 ?_;simp only[YS,zF,zU];omega
theorem EJ (h:BH U p n S sb ms)(x:Nat)(hx:x<=4611686018427387904){R:Int->Int->Bool->Hp->Prop}
 (h1:∀k q,can S k q=true->x/2^k=q->R (k:Int) ((q*2^k:Nat):Int) true U) (h0:S x=false->R 0 0 false U):XA.c (aW p) (x:Int) U R:=by
 refine XA.o ?_;unfold XA.v;refine bO (h.rB λcap=>?_);refine Zw (a:=bN) (λt u=>∃k:Nat,t=(k:Int)/\k<=ms.length/\u=U/\∀j,j<k->can S j (x/2^j)=false) (λt _=>ms.length-t.toNat) ⟨0,rfl,O,rfl,λj d=>O⟩ ?_;rintro t u ⟨k,rfl,w,rfl,b⟩;have y:=h.len;refine cL (λr=>?_) (λg=>?_)
 ·simp only at r;obtain⟨m,s⟩:=h.get (k:=k) O;refine h.rM s (nn O (nn O (tY rfl O hx (h.lk s rfl ?_))));cases hc:can S k (x/2^k)
  ·refine bZ aA (cC (m:=k+1) O O ?_);refine⟨⟨k+1,rfl,O,rfl,λj d=>?_⟩,O⟩;by_cases e:j=k
   ·rw[e];exact hc
   ·exact b j O
  ·exact cJ aA (h1 k _ hc rfl)
 ·simp only at g;refine h0 ?_;cases hs:S x
  ·rfl
  ·obtain⟨j,d⟩:=Hb h.jU hs;have:=h.fits (Z5 h.jU (ZW.1 d).1);rw[b j O]at d;cases d
def la (S:Nat->Bool)(x:Int):Bool:=decide (0<=x)&&S x.toNat
theorem IF (h:BH U p n S sb ms)(x:Int){R:aO}(hR:R (la S x) U):XZ.c (aW p) x U R:=by
 refine XZ.o ?_;unfold XZ.v;have n2:=h.n2;refine yk h (bW.intro (bZ rfl ?_));refine bW.intro (cL (λd=>cJ rfl ?_) λd=>bO (h.rN ?_))
 ·have:la S x=false:=by simp[la];intro;omega
  rw[this]at hR;exact hR
 ·refine cL (λg=>?_) λg=>?_
  ·have:la S x=false:=by
    simp only[la];cases a:S x.toNat
    ·simp
    ·have:=h.jU _ a;omega
   rw[this]at hR;exact hR
  ·obtain⟨y,rfl⟩:=zf (show 0<=x by omega);have e:la S (y:Int)=S y:=by simp[la]
   rw[e]at hR;refine EJ h y O (λk q i b=>?_) λa=>?_
   ·rw[Uw i b]at hR;exact hR
   ·rw[a]at hR;exact hR
theorem Nt {k q:Nat}(h:BH U p n S sb ms)(hf:q*2^k+2^k<=n)(hd:∀x,x/2^k=q->S x=false){R:aP}
 (hR:∀σ',Ext (· ∈ ms) U σ'->BH σ' p n (ins S k q) sb ms->R σ'):Zp.c (aW p) (k:Int) ((q*2^k:Nat):Int) U R:=by
 refine Zp.o ?_;unfold Zp.v;refine Vu (a:=bN) (bb:=bN)
  (λo s B=>∃(j r:Nat) (T:Nat->Bool),o=(j:Int)/\s=((r*2^j:Nat):Int)/\r*2^j+2^j<=n/\BH B p n T sb ms/\Ext (· ∈ ms) U B/\(∀x,x/2^j=r->T x=false)/\ins T j r=ins S k q)
  (λo _ _=>ms.length-o.toNat) ⟨k,q,S,rfl,rfl,hf,h,Ext.refl _ _,hd,rfl⟩ ?_
 rintro o s B ⟨j,r,T,rfl,rfl,A,d,P,z,w⟩;have Y:=d.len;have V:=d.fits A;have Q:=d.n2;have X:=lj j;obtain⟨m,C⟩:=d.get V;have y:¬full (ins T j r) (j+1) (r/2)=true->(bU (some ⟨p,0,none⟩) λH=>ji (H.add 1) B λE=>Ix E.a E.len (j:Int) 1 λL=>lU L B λM=>jS .i64 .b M ((r*2^j:Nat):Int) true B λv3=>R v3):=by
  intro g;refine bO (d.rB λcap=>d.rM C ?_);refine d.wo C z g A rfl λD e K=>hR D (P.trans e) ?_;rw[←w];exact K
 refine cC (m:=j+1) O O (bO (d.rB λcap=>bW.intro ?_));refine cL (λG=>?_) (λJ=>?_)
 ·simp only at G;refine bO (d.rB λcap=>d.rM C (mO O ?_));have N:=IQ (show j<=62 by omega);have F:bits .xor .i64 ((r*2^j:Nat):Int) ((2^j:Nat):Int)=((iv r*2^j:Nat):Int):=by
   rw[N4 O O,Ol]
  rw[F];refine d.lk C rfl ?_;cases hc:can T j (iv r)
  ·refine bZ aA (y (SL z (by simp[hc])))
  ·refine cJ aA ?_;refine bO (d.rB λcap=>d.rM C (mO O ?_));rw[F];refine d.sG C hc rfl λD e K=>?_;refine cC (m:=j+1) O O (nn O (cC (m:=j+1) O O (nn O ?_)));refine tY rfl O O ?_;refine cC (m:=j+1) O O ⟨⟨j+1,r/2,del T j (iv r),rfl,?_,?_,K,P.trans e,?_,?_⟩,O⟩
   ·rw[mV,←tJ,Vn]
   ·-- both halves lie within
    have u:=Z5 d.jU (ZW.1 hc).1;have e2:r/2*2^(j+1)=(r/2*2)*2^j:=by rw[mV,Nat.mul_comm (2^j) 2,←xD]
    rw[e2,mV];have g:(r/2*2)+1=r\/(r/2*2)+1=iv r:=by unfold iv;split<;>omega
    have W:(r/2*2)*2^j+2^j*2=((r/2*2)+1)*2^j+2^j:=by rw[zl];omega
    rw[W];rcases g with e4|e4<;>rw[e4]<;>assumption
   ·intro x F;rcases H4.1 F with u|u
    ·simp[del,z x u]
    ·simp[del,u]
   ·rw[←w];refine tT λx=>?_;rw[Ue,Ue,Ua,H4];by_cases u:x/2^j=iv r
    ·simp[u,Uw hc u]
    ·simp[u]
 ·simp only at J;refine bZ rfl (y λg=>?_);have:=Z5 (Iz d.jU A) g;have u:2^ms.length<=2^(j+1):=po aB O;have:=d.hi;omega
theorem AW {a m:Nat}(h:BH U p n S sb ms)(hf:a+m<=n)(hd:∀x,a<=x->x<a+m->S x=false){R:aP}
 (hR:∀σ',Ext (· ∈ ms) U σ'->BH σ' p n (dG S a (a+m)) sb ms->R σ'):Yf.c (aW p) (a:Int) (m:Int) U R:=by
 refine Yf.o ?_;unfold Yf.v;have J:=h.n2;refine Vu (a:=bN) (bb:=bN)
  (λs c w=>∃(a' g:Nat),s=(a':Int)/\c=(g:Int)/\a<=a'/\a'+g=a+m/\BH w p n (dG S a a') sb ms/\Ext (· ∈ ms) U w)
  (λ_ c _=>c.toNat) ⟨a,m,rfl,rfl,O,rfl,by rw[Rm];exact h,Ext.refl _ _⟩ ?_
 rintro s c w ⟨a',g,rfl,rfl,A,K,F,H⟩;refine cL (λE=>?_) (λV=>?_)
 ·refine Zw (a:=bN) (λk u=>∃j q:Nat,k=(j:Int)/\a'=q*2^j/\2^j<=g/\u=w) (λk _=>12-k.toNat) ⟨0,a',rfl,by simp,by simp;omega,rfl⟩ ?_;rintro k u ⟨j,q,rfl,P,M,rfl⟩;have W:j<=10:=by
   apply Classical.byContradiction;intro hc;have:2^11<=2^j:=po aB O;omega
  refine cC (m:=j+1) O O (nn O (cC (m:=j+1) O O (nn O ?_)));refine tY rfl O O (bW.intro ?_);have r:(Zp.c (aW p) (j:Int) (a':Int) u λv3=>
   Nn (j:Int)<|Ar .i64 (1*2^(min (j:Int).toNat IntKind.i64.bits)) λD=>Ar .i64 ((a':Int)+D) λd=>
   Nn (j:Int)<|Ar .i64 (1*2^(min (j:Int).toNat IntKind.i64.bits)) λB=>Ar .i64 ((g:Int)-B) λb=>
   (∃(a'' m'':Nat),d=(a'':Int)/\b=(m'':Int)/\a<=a''/\a''+m''=a+m/\BH v3 p n (dG S a a'') sb ms/\Ext (· ∈ ms) U v3)/\b.toNat<(g:Int).toNat):=by
   subst P;refine Nt F O (λx N=>?_) λv3 e y=>?_
   ·have:=Qv.1 N;have L:=hd x O O;simp only[dG,L,ra];rw[zJ (show ¬x<q*2^j by omega),sL]
   ·have z:=lj j;refine mO O (cC (m:=q*2^j+2^j) O O (mO O (cC (m:=g-2^j) O O ?_)));refine⟨⟨_,_,rfl,rfl,O,O,?_,H.trans e⟩,O⟩;rw[Tn,MH A O]at y;exact y
  refine cU (λG=>?_) (λG=>bZ rfl r);have C:a'/2^(j+1)*2^(j+1)=a':=by
   have:=za.1 G
   exact_mod_cast this
  refine cC (m:=j+1) O O (mO O ?_);refine cL (λQ=>?_) λ_=>r;refine cC (m:=j+1) O O ⟨⟨j+1,a'/2^(j+1),rfl,C.symm,O,rfl⟩,O⟩
 ·have:g=0:=by omega
  subst this;have:a'=a+m:=by omega
  subst this;exact hR w H F
theorem Fg {a m:Nat}(h:BH U p n S sb ms)(hf:a+m<=n)(hd:∀x,a<=x->x<a+m->S x=true){R:aP}
 (hR:∀σ',Ext (· ∈ ms) U σ'->BH σ' p n (take S a (a+m)) sb ms->R σ'):Zn.c (aW p) (a:Int) (m:Int) U R:=by
 refine Zn.o ?_;unfold Zn.v;have L:=h.n2;refine Zw (a:=bN) (λs w=>∃x:Nat,s=(x:Int)/\a<=x/\BH w p n (take S a (min x (a+m))) sb ms/\Ext (· ∈ ms) U w)
  (λs _=>a+m-s.toNat) ⟨a,rfl,O,by rw[rE O,NC];exact h,Ext.refl _ _⟩ ?_
 rintro s w ⟨x,rfl,F,d,K⟩;refine cC (m:=a+m) O O ?_;refine cL (λQ=>?_) (λX=>?_)
 ·rw[rE O]at d;have V:take S a x x=true:=KM.2 ⟨hd x F O,O⟩;refine EJ d x O (λk q C W=>?_) (λg=>by rw[V]at g;cases g);have z:=Z5 d.jU (ZW.1 C).1;have N:=d.fits z;have hl:=d.len;obtain⟨mm,J⟩:=d.get N;have Y:=Qv.1 W;refine bO (d.rB λcap=>d.rM J ?_);refine d.sG J C rfl λh1 e1 B=>?_;refine mO O (cC (m:=q*2^k+2^k) O O (cC (m:=x-q*2^k) O O ?_));refine AW B O (λy G D=>?_) λh2 e2 e=>?_
  ·have:y/2^k=q:=Qv.2 O;simp[del,this]
  ·have r:=(K.trans e1).trans e2;rw[show q*2^k+(x-q*2^k)=x by omega]at e;have j:∀y,q*2^k<=y/\y<q*2^k+2^k->S y=true/\¬(a<=y/\y<x):=λy b=>KM.1 (Uw C (Qv.2 b));refine cC (m:=a+m) O O (cL (λM=>?_) λZ=>?_)
   ·refine cC (m:=q*2^k+2^k-(a+m)) O O ?_;refine AW e O (λy G D=>?_) λh3 P u=>?_
    ·have:y/2^k=q:=Qv.2 O;have H:¬y<x:=by omega
     simp[dG,del,this,H]
    ·refine⟨⟨_,rfl,O,?_,r.trans P⟩,O⟩;rw[Nat.min_eq_right O];have:dG (dG (del (take S a x) k q) (q*2^k) x) (a+m) (a+m+(q*2^k+2^k-(a+m)))=take S a (a+m):=by
      refine tT λy=>?_;have b:=j y;simp only[KU,Ua,KM,Ne,Qv];generalize q*2^k=A at *;generalize 2^k=E at *;cases g:S y
      ·rw[g]at b;simp only[zc,false_and,false_or,iff_false,imp_false]at b ⊢;omega
      ·rw[g]at b;simp only[uj]at b ⊢;omega
     rw[this]at u;exact u
   ·refine⟨⟨_,rfl,O,?_,r⟩,O⟩;rw[rE O];have:dG (del (take S a x) k q) (q*2^k) x=take S a (q*2^k+2^k):=by
     refine tT λy=>?_;have b:=j y;simp only[KU,Ua,KM,Ne,Qv];generalize q*2^k=A at *;generalize 2^k=E at *;cases g:S y
     ·rw[g]at b;simp only[zc,false_and,false_or,iff_false,imp_false]at b ⊢;omega
     ·rw[g]at b;simp only[uj]at b ⊢;omega
    rw[this]at e;exact e
 ·rw[Nat.min_eq_right O]at d;exact hR w K d
def qt (S:Nat->Bool)(a m:Nat):Bool:=(List.range m).all λi=>!S (a+i)
def iA (S:Nat->Bool)(a m:Nat):Bool:=(List.range m).all λi=>S (a+i)
theorem VR {S:Nat->Bool}{a m:Nat}:qt S a m=true↔∀x,a<=x->x<a+m->S x=false:=by
 simp only[qt,kK,ze,mS];exact⟨λh x b e=>by have:=h (x-a) O;rwa [show a+(x-a)=x by omega]at this,λh i d=>h _ O O⟩
theorem UK {S:Nat->Bool}{a m:Nat}:iA S a m=true↔∀x,a<=x->x<a+m->S x=true:=by
 simp only[iA,kK,ze];exact⟨λh x b e=>by have:=h (x-a) O;rwa [show a+(x-a)=x by omega]at this,λh i d=>h _ O O⟩
theorem OV {S:Nat->Bool}{a m x:Nat}(h1:a<=x)(h2:x<a+m)(h:S x=true):qt S a m=false:=by
 cases e:qt S a m
 ·rfl
 ·rw[VR.1 e x h1 h2]at h;cases h
theorem Ζ {S:Nat->Bool}{a m x:Nat}(h1:a<=x)(h2:x<a+m)(h:S x=false):iA S a m=false:=by
 cases e:iA S a m
 ·rfl
 ·rw[UK.1 e x h1 h2]at h;cases h
def xT (n:Nat)(S:Nat->Bool)(a m:Int):Int:=if YS n a m then(if qt S a.toNat m.toNat then 0 else 9)else 1
def Q8 (n:Nat)(S:Nat->Bool)(a m:Int):Nat->Bool:=if YS n a m&&qt S a.toNat m.toNat then dG S a.toNat (a.toNat+m.toNat)else S
def qX (n:Nat)(S:Nat->Bool)(a m:Int):Int:=if YS n a m then(if iA S a.toNat m.toNat then 0 else 4)else 1
def j6 (n:Nat)(S:Nat->Bool)(a m:Int):Nat->Bool:=if YS n a m&&iA S a.toNat m.toNat then take S a.toNat (a.toNat+m.toNat)else S
theorem Lm {n:Nat}{a m:Int}(h:YS n a m=true):∃x y:Nat,a=(x:Int)/\m=(y:Int)/\1<=y/\x+y<=n:=by
 simp only[YS,zF,zU]at h;exact⟨a.toNat,m.toNat,O,O,O,O⟩
theorem qN (h:BH U p n S sb ms)(a m:Int){R:aN}
 (hR:∀σ',Ext (· ∈ ms) U σ'->BH σ' p n (Q8 n S a m) sb ms->R (xT n S a m) σ'):Ym.c (aW p) a m U R:=by
 refine Ym.o ?_;unfold Ym.v;have A:=h.n2;refine D0 h a m (λb=>bZ rfl ?_) (λb=>cJ rfl ?_)
 ·obtain⟨x,y,rfl,rfl,G,w⟩:=Lm b;refine Zw (a:=bN) (λt s=>∃z:Nat,t=(z:Int)/\x<=z/\s=U/\∀u,x<=u->u<z->S u=false) (λt _=>x+y-t.toNat) ⟨x,rfl,O,rfl,λu _ _=>O⟩ ?_;rintro t s ⟨z,rfl,D,rfl,g⟩;refine cC (m:=x+y) O O ?_;refine cL (λF=>IF h _ ?_) (λB=>?_)
  ·have e:la S (z:Int)=S z:=by simp[la]
   rw[e];cases hs:S z
   ·refine bZ rfl (cC (m:=z+1) O O ⟨⟨z+1,rfl,O,rfl,λu r E=>?_⟩,O⟩);by_cases e:u=z
    ·rw[e];exact hs
    ·exact g u r O
   ·refine cJ rfl ?_;have j:=OV (m:=y) D O hs;have:=hR s (Ext.refl _ _);simp only[xT,Q8,b,dE,j,sL,zT,zc,j4]at this;exact this h
  ·have d:∀u,x<=u->u<x+y->S u=false:=λu r E=>g u r O;have j:=VR.2 d;refine AW h w d λr e1 C=>?_;have:=hR r e1;simp only[xT,Q8,b,dE,j,ub,zT]at this;exact this C
 ·have:=hR U (Ext.refl _ _);simp only[xT,Q8,b,rO,zc,j4]at this;exact this h
theorem nk (h:BH U p n S sb ms)(a m:Int){R:aN}
 (hR:∀σ',Ext (· ∈ ms) U σ'->BH σ' p n (j6 n S a m) sb ms->R (qX n S a m) σ'):XC.c (aW p) a m U R:=by
 refine XC.o ?_;unfold XC.v;have A:=h.n2;refine D0 h a m (λb=>bZ rfl ?_) (λb=>cJ rfl ?_)
 ·obtain⟨x,y,rfl,rfl,G,w⟩:=Lm b;refine Zw (a:=bN) (λt s=>∃z:Nat,t=(z:Int)/\x<=z/\s=U/\∀u,x<=u->u<z->S u=true) (λt _=>x+y-t.toNat) ⟨x,rfl,O,rfl,λu _ _=>O⟩ ?_;rintro t s ⟨z,rfl,D,rfl,g⟩;refine cC (m:=x+y) O O ?_;refine cL (λF=>IF h _ ?_) (λB=>?_)
  ·have e:la S (z:Int)=S z:=by simp[la]
   rw[e];cases hs:S z
   ·refine cJ rfl ?_;have j:=Ζ (m:=y) D O hs;have:=hR s (Ext.refl _ _);simp only[qX,j6,b,dE,j,sL,zT,zc,j4]at this;exact this h
   ·refine bZ rfl (cC (m:=z+1) O O ⟨⟨z+1,rfl,O,rfl,λu r E=>?_⟩,O⟩);by_cases e:u=z
    ·rw[e];exact hs
    ·exact g u r O
  ·have d:∀u,x<=u->u<x+y->S u=true:=λu r E=>g u r O;have j:=UK.2 d;refine Fg h w d λr e1 C=>?_;have:=hR r e1;simp only[qX,j6,b,dE,j,ub,zT]at this;exact this C
 ·have:=hR U (Ext.refl _ _);simp only[qX,j6,b,rO,zc,j4]at this;exact this h
end Go.Bu
namespace Go.Ar
open Go.Bu
def tn (n:Nat)(h:Int):Bool:=decide (0<=h)&&decide (h<((n/16:Nat):Int))
def kU (st:List Nat)(h:Int):Int:=if tn st.length h then(if st.getD (16*h.toNat) 0=0 then 0 else 5)else 1
def jo (st:List Nat)(h:Int):List Nat:=if kU st h=0 then fY st (16*h.toNat) (16*h.toNat+16) 3 else st
def uw (st:List Nat)(h:Nat):Bool:=st.getD (16*h) 0 != 0&&gB st (16*h) (16*h+16) 1==0
def lG (st:List Nat)(h:Int):Int:=if tn st.length h then(if uw st h.toNat then 0 else 5)else 1
def jK (st:List Nat)(h:Int):List Nat:=if lG st h=0 then fY st (16*h.toNat) (16*h.toNat+16) 0 else st
def uJ (st:List Nat)(a m:Nat)(fr:List Nat):Bool:=((st.drop a).take m).all fr.contains
def oQ (st:List Nat)(a m:Int)(fr:List Nat):Int:=if YS st.length a m then(if uJ st a.toNat m.toNat fr then 0 else 5)else 1
def Uu (st:List Nat)(a m:Int)(v:Nat)(fr:List Nat):List Nat:=if oQ st a m fr=0 then fY st a.toNat (a.toNat+m.toNat) v else st
def Vt (st:List Nat)(h:Nat):Nat:=if gB st (16*h) (16*h+16) 1=0 then 0 else if 0<gB st (16*h) (16*h+16) 3 then 1 else 2
def KQ (st:List Nat)(k:Nat):List Nat:=(List.range (st.length/16)).filter λh=>st.getD (16*h) 0 != 0&&Vt st h==k
def used (st:List Nat)(h:Nat):Nat:=gB st (16*h) (16*h+16) 1
def An (st:List Nat)(g h:Nat):Bool:=
 decide (Vt st g<Vt st h)||(Vt st g==Vt st h&&(decide (used st g<used st h)||(used st g==used st h&&decide (h<g))))
def mW (st:List Nat)(l:List Nat)(h:Nat):List Nat:=l.takeWhile (λg=>An st g h)++h::l.dropWhile (λg=>An st g h)
def eJ (st:List Nat):List Nat:=((List.range (st.length/16)).filter λh=>0<gB st (16*h) (16*h+16) 2).foldl (mW st) []
def gp (st:List Nat)(p m:Nat):Nat:=(((st.drop p).take m).takeWhile (· == 2)).length
def Kq (st:List Nat)(e:Nat):Nat->Nat->List (Nat×Nat)
 | 0,_=>[]
 | f+1,p=>if e<=p then[]else if gp st p (e-p)=0 then Kq st e f (p+1)else(p,gp st p (e-p))::Kq st e f (p+gp st p (e-p)+1)
def Vs (st:List Nat)(h:Nat):List (Nat×Nat):=Kq st (16*h+16) 17 (16*h)
def gU (want:Int):Nat->List (Nat×Nat)->List (Nat×Nat)
 | _,[]=>[]
 | p,r::rs=>if want<=(p:Int)then[]else r::gU want (p+r.2) rs
def Gf (st:List Nat)(want:Int):List (Nat×Nat):=gU want 0 ((eJ st).flatMap (Vs st))
structure Sp where
 st:List Nat
 wd:Nat->Int
 pk:Nat
def Sp.set (s:Sp)(a m v:Nat):Sp:={s with st:=fY s.st a (a+m) v,wd:=λw=>if a*32<=w/\w<(a+m)*32 then 0 else s.wd w}
def yz (st:List Nat)(a m v:Nat):Bool:=((st.drop a).take m).contains v
def fH (s:Sp)(a m:Int):Int:=if YS s.st.length a m then(if((s.st.drop a.toNat).take m.toNat).any (· != 0)then 5 else 0)else 1
def gL (s:Sp)(a m:Int):Sp:=if fH s a m=0 then s.set a.toNat m.toNat 1 else s
def fF (s:Sp)(a m:Int):Int:=if YS s.st.length a m then(if yz s.st a.toNat m.toNat 0 then 7 else 0)else 1
def dX (s:Sp)(a m:Int)(v:Nat):Sp:=if fF s a m=0 then s.set a.toNat m.toNat v else s
def fG (s:Sp)(x:Int):Int:=if x<0\/x%8≠0 then 7 else if s.st.getD (x.toNat/256) 0=0 then 7 else 0
def om (s:Sp)(w:Nat)(v:Int):Sp:=
 {st:=s.st.set (w/32) 2,wd:=λu=>if u=w then v else s.wd u,pk:=if s.st.getD (w/32) 0=2 then s.pk else max s.pk ((s.st.set (w/32) 2).count 2)}
def KZ (s:Sp)(x v:Int):Sp:=if fG s x=0 then om s (x.toNat/8) v else s
end Go.Ar
namespace Go.Ar
structure Li where
 os:List Int
 lim:Nat
 low:Nat
 deriving DecidableEq
def il:Li:=⟨[],1,0⟩
structure fS (l:Li):Prop where
 low:l.low<=l.os.length
 many:l.os.length<=256
 lim:l.lim<=128
 nV:1<=l.lim
def gV (m:Nat)(l:Li):List Int×Li:=(l.os.take m,{l with os:=l.os.drop m,low:=min l.low (l.os.length-m)})
def nj (c:cD)(l:Li):Li:=if l.lim<c.batch then{l with lim:=l.lim+1}else l
def KJ (c:cD)(l:Li):Option Int×Li:=match l.os.getLast? with
 | none=>(none,if l.lim<c.batch then{l with lim:=l.lim+1}else{l with lim:=min (l.lim+c.batch) 128})
 | some x=>(some x,{l with os:=l.os.dropLast,low:=min l.low (l.os.length-1)})
def qd (c:cD)(l:Li):Nat:=min l.lim c.batch
def eM (xs:List Int)(l:Li):Li:=if l.os.length+xs.length>256 then l else{l with os:=l.os++xs}
def dM (c:cD)(x:Int)(l:Li):List Int×Li:=
 if l.os.length+1>256 then([],l)
 else if l.os.length+1<=l.lim then([],eM [x] l)
 else gV (min c.batch (l.os.length+1)) (nj c (eM [x] l))
def Vp (c:cD)(l:Li):List Int×Li:=
 ((gV ((l.low+1)/2) l).1,{os:=(gV ((l.low+1)/2) l).2.os,lim:=if l.lim>c.batch then max (l.lim-c.batch) c.batch else l.lim,low:=(gV ((l.low+1)/2) l).2.os.length})
def Z6 (_:cD)(l:Li):List Int×Li:=gV l.os.length l
abbrev Bt:=Nat×List Int
def KI (f:cD->Li->List Int×Li)(tb:List cD)(ls:List Li):List Bt:=(List.range tb.length).filterMap λk=>match tb[k]?,ls[k]? with
 | some c,some l=>if(f c l).1=[]then none else some (k,(f c l).1)
 | _,_=>none
def KE (f:cD->Li->List Int×Li)(tb:List cD)(ls:List Li):List Li:=List.zipWith (λc l=>(f c l).2) tb ls
def KA (tb:List cD)(ls:List Li):Nat:=((tb.zip ls).map λx=>x.1.size*x.2.os.length).sum
theorem fS.nil:fS il:=⟨zC _,by decide,by decide,by decide⟩
theorem Al {m:Nat}{l:Li}(h:fS l):fS (gV m l).2:=by
 have b:=h.low;have a:=h.many;refine⟨?_,?_,h.lim,h.nV⟩
 ·simp only[gV,zt];omega
 ·simp only[gV,zt];omega
theorem Fs {c:cD}{l:Li}(hc:c.ok)(h:fS l):fS (KJ c l).2:=by
 have b:=h.low;have a:=h.many;have e:=h.lim;have d:=h.nV;unfold cD.ok at hc;unfold KJ;split
 ·split
  ·exact⟨b,a,by simp only;omega,by simp only;omega⟩
  ·exact⟨b,a,by simp only;omega,by simp only;omega⟩
 ·exact⟨by simp only[BM];omega,by simp only[BM];omega,e,d⟩
theorem yH {xs:List Int}{l:Li}(h:fS l):fS (eM xs l):=by
 have b:=h.low;have a:=h.many;unfold eM;split
 ·exact h
 ·exact⟨by simp only[zR];omega,by simp only[zR];omega,h.lim,h.nV⟩
theorem Fu {c:cD}{l:Li}(hc:c.ok)(h:fS l):fS (nj c l):=by
 have a:=h.lim;unfold cD.ok at hc;unfold nj;split
 ·exact⟨h.low,h.many,by simp only;omega,by simp only;omega⟩
 ·exact h
theorem N8 {c:cD}{x:Int}{l:Li}(hc:c.ok)(h:fS l):fS (dM c x l).2:=by
 unfold dM;split
 ·exact h
 ·split
  ·exact yH h
  ·exact Al (Fu hc (yH h))
theorem J8 {c:cD}{l:Li}(hc:c.ok)(h:fS l):fS (Vp c l).2:=by
 have a:=(Al (m:=(l.low+1)/2) h).many;have d:=h.lim;have b:=h.nV;unfold cD.ok at hc;refine⟨zC _,a,?_,?_⟩<;>simp only[Vp]<;>split<;>omega
theorem SE {c:cD}{l:Li}(h:fS l):fS (Z6 c l).2:=Al h
theorem O8 (c:cD)(hc:c.ok):Vp c il=([],il):=by
 unfold cD.ok at hc;simp[Vp,il,gV];omega
theorem RT (c:cD):Z6 c il=([],il):=by simp[Z6,il,gV]
def gg.rem (t:gg):gg:={low:=min t.low (t.bs.length-1),bs:=t.bs.dropLast}
def gg.tick (t:gg):gg:={low:=(t.bs.drop ((t.low+1)/2)).length,bs:=t.bs.drop ((t.low+1)/2)}
def gg.out (t:gg):List (List Int):=t.bs.take ((t.low+1)/2)
end Go.Ar
namespace Go.Proofs
open Go.Vc
set_option maxRecDepth 100000
def WZ.h:Hn:=.q .o1 (.q (.q .o3 .aK) (.q .o2 (.q (.q .o4 (.k (.loop [(13,.I)] (.q .o1 (.q (.c .l .l) (.q (.k (.q .o4 .o8)) .o2)))))) .aL)))
def WZ.v (a:R2)(b:Hp)(c:Option Addr->Hp->Prop):Prop:=Xt.c a b λd e=>If (!d) (c none e) (Qi.c e λf g=>YG.c a g λh i=>WU [bN] (λj=>j 0 i) λk (l:Int) m=>If (l<((h.len:Nat):Int)) (Ix h.a h.len l 3 λn=>aQ n 0 m λo=>aQ n 1 m λp=>aQ n 2 m λq=>aV #[.I 0,.I 0,.I 0] 183 m λr s=>aR r 0 (.I o) s λt=>aR r 1 (.I p) t λu=>aR r 2 (.I q) u λv=>aQ r 0 v λw=>aQ r 1 v λx=>aQ r 2 v λy=>Yu.c f w x y v λz aa=>bL (l+1) λab=>k ab aa) (c f m))
theorem WZ.o {a b c}(d:WZ.v a b c):WZ.c a b c:=Wa Tryz.func75 (x:=WZ.h) (R0 d)
def Xt.h:Hn:=.q .o1 (.q (.cW (.seq [.op,.op,.op,.cY true 4 (RI.ops 4),.op])) .l)
def Xt.v (a:R2)(b:Hp)(c:aO):Prop:=bW (λd e=>c d e) λf=>If (!a.isNone) (bG a 0 b λh=>f h b) (f false b)
theorem Xt.o {a b c}(d:Xt.v a b c):Xt.c a b c:=Wa Tryz.func107 (x:=Xt.h) (R0 d)
def Qi.h:Hn:=.q .o1 (.q .o3 .l)
def Qi.v (a:Hp)(b:Option Addr->Hp->Prop):Prop:=aV #[.bool true,.pointer none,.pointer none,.pointer none,.pointer none,.pointer none,.pointer none,.pointer none,.pointer none,.pointer none,.pointer none,.pointer none,.pointer none,.pointer none,.pointer none,.pointer none,.pointer none] 265 a λc d=>b (some c) d
theorem Qi.o {a b}(c:Qi.v a b):Qi.c a b:=Wa Tryz.func108 (x:=Qi.h) (R0 c)
def YG.h:Hn:=.q .o1 (.q .o1 (.q (.q .o1 (.k (.loop [(3,.one .s),(7,.I)] (.q .o1 (.q (.c .l .l) (.q (.k (.q .o2 (.q .o4 (.q .o4 (.k (.q .o3 (.c .l (.q (.cW (.quiet [.op,.op,.op,.cY true 13 (RI.ops 13),.op,.cY true 7 (RI.ops 7),.op])) (.c .o9 .o7))))))))) .o2)))))) .aL))
def YG.v (a:R2)(b:Hp)(c:Sl->Hp->Prop):Prop:=WU [.s,bN] (λd=>d ⟨none,0,0⟩ 0 b) λe (f:Sl) (g:Int) h=>If (g<1024) (YZ.c a g h λi j=>bL (((f.len:Nat):Int)-1) λk=>If (i==0) (bL (g+1) λl=>e f l j) (bW (λm n=>bW (λo p=>If o (Ix f.a f.len k 3 λq=>aQ q 1 p λr=>bL (r+1) λs=>Ix f.a f.len k 3 λt=>aR t 1 (.I s) p λu=>bL (g+1) λv=>e f v u) (aV #[.I g,.I 1,.I i] 183 p λw x=>App f 3 24 183 [.I 0,.I 0,.I 0] ⟨some w,1,1⟩ x λy z=>bL (g+1) λaa=>e y aa z)) λab=>If m (Ix f.a f.len k 3 λac=>aQ ac 2 n λad=>ab (ad==i) n) (ab false n)) λae=>If (k≥0) (Ix f.a f.len k 3 λaf=>aQ af 0 j λag=>Ix f.a f.len k 3 λah=>aQ ah 1 j λai=>bL (ag+ai) λaj=>ae (aj==g) j) (ae false j))) (c f h)
theorem YG.o {a b c}(d:YG.v a b c):YG.c a b c:=Wa Tryz.func109 (x:=YG.h) (R0 d)
def Yu.h:Hn:=.q .o1 (.q (.k (.q .o4 (.c .aM (.q (.cW (.seq [.op,.op,.op,.cY false 2 [.op,.op],.op,.cY false 2 [.op,.op],.op,.cY false 4 (RI.ops 4),.op])) .aK)))) (.q (.q .o2 (.k (.loop [(9,.I)] (.q (.q .o5 (.c .l .l)) (.q (.k .o4) .o3))))) .aM))
def Yu.v (a:R2)(b c d:Int)(e:Hp)(f:aN):Prop:=Xt.c a e λg h=>If (!g) (f 5 h) (bW (λi j=>bW (λk l=>bW (λm n=>If m (f 1 n) (WU [bN] (λo=>o b n) λp (q:Int) r=>bL (b+c) λs=>If (q<s) (Zs.c a q d r λt=>bL (q+1) λu=>p u t) (f 0 r))) λv=>If k (v true l) (bL (1024-b) λw=>v (decide (c>w)) l)) λx=>If i (x true j) (x (decide (b>1024)) j)) λy=>If (b<0) (y true h) (y (decide (c<1)) h))
theorem Yu.o {a b c d e f}(g:Yu.v a b c d e f):Yu.c a b c d e f:=Wa Tryz.func110 (x:=Yu.h) (R0 g)
def YZ.h:Hn:=.q .o1 (.q (.q (.cW (.seq [.op,.op,.op,.op,.cY false 2 [.op,.op],.op,.cY false 2 [.op,.op]])) .aK) (.q .o9 (.q (.q (.cW (.seq [.op,.op,.op,.cY false 8 (RI.ops 8)])) .aK) (.q (.o 13) .l))))
def YZ.v (a:R2)(b:Int)(c:Hp)(d:aN):Prop:=Xt.c a c λe f=>bW (λg h=>bW (λi j=>If i (d 0 j) (Nz 8<|bL (b.tdiv 8) λk=>Nz 8<|bL (k.tdiv 8) λl=>bU a λm=>oS (m.add 1) 16 l 1 λn=>fW n j λo=>bW (λp q=>If p (d 0 q) (Nz 8<|bL (b.tdiv 8) λr=>Nz 8 <| bU o λs=>oS s 8 (r.tmod 8) 1 λt=>fW t q λu=>Nz 8 <| bU u λv=>oS v 8 (b.tmod 8) 1 λw=>bM w q λx=>d x q)) λy=>If o.isNone (y true j) (Nz 8<|bL (b.tdiv 8) λz=>Nz 8 <| bU o λaa=>oS aa 8 (z.tmod 8) 1 λab=>fW ab j λac=>y ac.isNone j))) λad=>If g (ad true h) (ad (decide (b≥1024)) h)) λae=>If (!e) (ae true f) (ae (decide (b<0)) f)
theorem YZ.o {a b c d}(e:YZ.v a b c d):YZ.c a b c d:=Wa Tryz.func164 (x:=YZ.h) (R0 e)
def Zs.h:Hn:=.q .o9 (.q .o8 (.q .o7 (.j8 [] (.q .o5 (.c .o7 .l)) (.q .o5 (.c .o8 .l)))))
def Zs.v (a:R2)(b c:Int)(d:Hp)(e:aP):Prop:=Nz 8<|bL (b.tdiv 8) λf=>Nz 8<|bL (f.tdiv 8) λg=>bU a λh=>oS (h.add 1) 16 g 1 λi=>Wx.c (some i) d λj k=>Nz 8<|bL (b.tdiv 8) λl=>Nz 8 <| bU j λm=>oS m 8 (l.tmod 8) 1 λn=>WA.c (some n) k λo p=>Nz 8 <| bU o λq=>oS q 8 (b.tmod 8) 1 λr=>eP r (.I c) p λs=>Jn [] (λt=>bU j λu=>aY u 0 t λv=>aY u 1 t λw=>aY u 2 t λx=>aY u 3 t λy=>aY u 4 t λz=>aY u 5 t λaa=>aY u 6 t λab=>aY u 7 t λac=>If (v.isNone&&(w.isNone&&(x.isNone&&(y.isNone&&(z.isNone&&(aa.isNone&&(ab.isNone&&(ac.isNone&&true)))))))) (Nz 8<|bL (b.tdiv 8) λad=>Nz 8<|bL (ad.tdiv 8) λae=>bU a λaf=>oS (af.add 1) 16 ae 1 λag=>eP ag (.pointer none) t λah=>e ah) (e t)) λai=>bU o λaj=>aQ aj 0 s λak=>aQ aj 1 s λal=>aQ aj 2 s λam=>aQ aj 3 s λan=>aQ aj 4 s λao=>aQ aj 5 s λap=>aQ aj 6 s λaq=>aQ aj 7 s λar=>If ((ak==0)&&((al==0)&&((am==0)&&((an==0)&&((ao==0)&&((ap==0)&&((aq==0)&&((ar==0)&&true)))))))) (Nz 8<|bL (b.tdiv 8) λau=>Nz 8 <| bU j λav=>oS av 8 (au.tmod 8) 1 λaw=>eP aw (.pointer none) s λax=>ai ax) (ai s)
theorem Zs.o {a b c d e}(f:Zs.v a b c d e):Zs.c a b c d e:=Wa Tryz.func166 (x:=Zs.h) (R0 f)
def XP.h:Hn:=.q .o1 (.q .o5 .l)
def XP.v (a:R2)(b c:Int)(d:Hp)(e:aN):Prop:=Yu.c a b c 0 d λf g=>e f g
theorem XP.o {a b c d e}(f:XP.v a b c d e):XP.c a b c d e:=Wa Tryz.func184 (x:=XP.h) (R0 f)
def Wx.h:Hn:=.q .o1 (.j8 [] (.q .o4 (.c .o4 .l)) (.q .o4 .l))
def Wx.v (a:R2)(b:Hp)(c:Option Addr->Hp->Prop):Prop:=Jn [] (λd=>bU a λe=>fW e d λf=>c f d) λg=>bU a λh=>fW h b λi=>If i.isNone (aV #[.pointer none,.pointer none,.pointer none,.pointer none,.pointer none,.pointer none,.pointer none,.pointer none] 305 b λj k=>bU a λl=>eP l (.pointer (some j)) k λm=>g m) (g b)
theorem Wx.o {a b c}(d:Wx.v a b c):Wx.c a b c:=Wa Tryz.func217 (x:=Wx.h) (R0 d)
def WA.h:Hn:=.q .o1 (.j8 [] (.q .o4 (.c .o4 .l)) (.q .o4 .l))
def WA.v (a:R2)(b:Hp)(c:Option Addr->Hp->Prop):Prop:=Jn [] (λd=>bU a λe=>fW e d λf=>c f d) λg=>bU a λh=>fW h b λi=>If i.isNone (aV #[.I 0,.I 0,.I 0,.I 0,.I 0,.I 0,.I 0,.I 0] 309 b λj k=>bU a λl=>eP l (.pointer (some j)) k λm=>g m) (g b)
theorem WA.o {a b c}(d:WA.v a b c):WA.c a b c:=Wa Tryz.func218 (x:=WA.h) (R0 d)
def Yq.h:Hn:=.q .o1 (.q (.q (.cW (.seq [.op,.op,.op,.cY true 6 [.op,.op,.op,.cY false 2 [.op,.op]]])) .aK) (.q .o6 .l))
def Yq.v (a:R2)(b c d:Int)(e:Hp)(f:aN):Prop:=Xt.c a e λg h=>bW (λi j=>If i (f 1 j) (Yu.c a b c d j λk l=>f k l)) λm=>If g (bW (λn o=>m n o) λp=>If (d<1) (p true h) (p (decide (d>1073741824)) h)) (m false h)
theorem Yq.o {a b c d e f}(g:Yq.v a b c d e f):Yq.c a b c d e f:=Wa Tryz.func225 (x:=Yq.h) (R0 g)
end Go.Proofs
namespace Go.Ar
open Go Go.Vc Go.Proofs
open Go.Bu (YS)
variable {U:Hp}{F:Rg}{p:Nat}{M Lf:Nat->Option Nat}{ow:Nat->Nat}
def gF {α:Type}(f:Nat->α)(k:Nat)(v:α):Nat->α:=λi=>if i=k then v else f i
theorem ZR {α:Type}(f:Nat->α)(k:Nat)(v:α):gF f k v k=v:=by simp[gF]
theorem QK {α:Type}(f:Nat->α){k i:Nat}(v:α)(h:i≠k):gF f k v i=f i:=by simp[gF,h]
theorem KP {α:Type}(f:Nat->α)(n k:Nat)(v:α):((List.range n).map f).set k v=(List.range n).map (gF f k v):=by
 apply zp;intro i;by_cases hik:i=k
 ·subst hik;rcases zq i n with h|h
  ·rw[zK (by simpa using h)];simp[nW h,gF]
  ·rw[zO (by simpa using h),zO (by simpa using h)]
 ·rw[zd (Ne.symm hik)];simp only[zk];rcases zq i n with h|h
  ·simp[nW h,gF,hik]
  ·simp[zO (show(List.range n).length<=i by simpa using h)]
theorem KW {α:Type}(f:Nat->α){n k:Nat}(h:k<n):((List.range n).map f)[k]?=some (f k):=by simp[nW h]
def ptr (o:Option Nat):Value:=.pointer (o.map λq=>⟨q,0,none⟩)
structure kv (U:Hp) (F:Rg) (p:Nat) (M Lf:Nat->Option Nat) (ow:Nat->Nat):Prop where
 hd:bY U p (.bool true::(List.range 16).map λi=>ptr (M i))
 jG:∀i q,i<16->M i=some q->bY U q ((List.range 8).map λj=>ptr (Lf (8*i+j)))
 lz:∀i,i<16->M i=none->∀j,j<8->Lf (8*i+j)=none
 leaf:∀k q,k<128->Lf k=some q->bY U q ((List.range 8).map λj=>.int .i64 ((ow (8*k+j):Nat):Int))
 jc:∀k,k<128->Lf k=none->∀j,j<8->ow (8*k+j)=0
 fp:F p
 fm:∀i q,i<16->M i=some q->F q/\q≠p
 fl:∀k q,k<128->Lf k=some q->F q/\q≠p
 mm:∀i j q,i<16->j<16->M i=some q->M j=some q->i=j
 ll:∀i j q,i<128->j<128->Lf i=some q->Lf j=some q->i=j
 ml:∀i k q,i<16->k<128->M i=some q->Lf k≠some q
def gJ (U:Hp)(F:Rg)(p:Nat)(ow:Nat->Nat):Prop:=∃M Lf,kv U F p M Lf ow
theorem kv.move {σ':Hp}{G:Rg}(h:kv U F p M Lf ow)(hb:∀b,b<U.size->F b->σ'[b]?=U[b]?)(hg:∀b,b<U.size->F b->G b):kv σ' G p M Lf ow:=by
 have j:∀{b:Nat} {cs:List Value},bY U b cs->F b->bY σ' b cs:=by
  rintro b cs ⟨e,m⟩ r;exact⟨e,(hb b (bY.lt ⟨e,m⟩) r).trans m⟩
 exact⟨j h.hd h.fp,λi q d a=>j (h.jG i q d a) (h.fm i q d a).1,h.lz,λk q g a=>j (h.leaf k q g a) (h.fl k q g a).1,h.jc,hg p h.hd.lt h.fp,
  λi q d a=>⟨hg q (h.jG i q d a).lt (h.fm i q d a).1,(h.fm i q d a).2⟩,λk q g a=>⟨hg q (h.leaf k q g a).lt (h.fl k q g a).1,(h.fl k q g a).2⟩,h.mm,h.ll,h.ml⟩
theorem gJ.loc:dH λU F=>gJ U F p ow:=λU i F G ⟨M,Lf,h⟩ g e=>⟨M,Lf,h.move (λb d a=>(e b d a).2) λb d a=>(e b d a).1⟩
theorem gJ.congr {ow':Nat->Nat}(h:gJ U F p ow)(he:∀x,x<1024->ow x=ow' x):gJ U F p ow':=by
 obtain⟨M,Lf,h⟩:=h;refine⟨M,Lf,h.hd,h.jG,h.lz,λk q d a=>?_,λk d a j b=>?_,h.fp,h.fm,h.fl,h.mm,h.ll,h.ml⟩
 ·have:=h.leaf k q d a;have e:((List.range 8).map λj=>Value.int .i64 ((ow (8*k+j):Nat):Int))=(List.range 8).map λj=>Value.int .i64 ((ow' (8*k+j):Nat):Int):=by
   apply k5;intro j b;rw[ze]at b;rw[he _ O]
  rw[←e];exact this
 ·rw[←he _ O];exact h.jc k d a j b
theorem zx (h:gJ U F p ow){R:aO}(hR:R true U):Xt.c (aW p) U R:=by
 refine Xt.o ?_;unfold Xt.v;obtain⟨M,Lf,h⟩:=h;exact bW.intro (cJ rfl (bO (h.hd.rB rfl hR)))
theorem qQ {a:Addr}{n i sz:Nat}{K:Addr->Prop}(hi:i<n)(hK:K (a.add (i*sz))):oS a n (i:Int) sz K:=⟨O,O,by simpa using hK⟩
theorem kv.rM (h:kv U F p M Lf ow){i:Nat}(hi:i<16){K:Option Addr->Prop}(hK:K ((M i).map λq=>⟨q,0,none⟩)):fW ⟨p,1+i,none⟩ U K:=by
 refine h.hd.uI ?_ hK;rw[Nat.add_comm,Ca,KW _ hi];rfl
theorem kv.rL (h:kv U F p M Lf ow){i j q:Nat}(hi:i<16)(hq:M i=some q)(hj:j<8){K:Option Addr->Prop}(hK:K ((Lf (8*i+j)).map λq=>⟨q,0,none⟩)):fW ⟨q,j,none⟩ U K:=
 (h.jG i q hi hq).uI (KW _ hj) hK
theorem kv.rN (h:kv U F p M Lf ow){k j q:Nat}(hk:k<128)(hq:Lf k=some q)(hj:j<8){K:Int->Prop}(hK:K ((ow (8*k+j):Nat):Int)):gO .i64 ⟨q,j,none⟩ U K:=
 (h.leaf k q hk hq).sM (KW _ hj) hK
def pE (ow:Nat->Nat)(x:Int):Nat:=if 0<=x/\x<1024 then ow x.toNat else 0
theorem Jb (h:gJ U F p ow)(x:Int){R:aN}(hR:R ((pE ow x:Nat):Int) U):YZ.c (aW p) x U R:=by
 refine YZ.o ?_;unfold YZ.v;have i:=h;obtain⟨M,Lf,h⟩:=h;refine zx i (bW.intro (bZ rfl (bW.intro (cL (λj=>cJ rfl ?_) λj=>?_))))
 ·have:pE ow x=0:=by unfold pE;rw[zA O]
  rw[this]at hR;exact hR
 refine cL (λu=>?_) λw=>?_
 ·have:pE ow x=0:=by unfold pE;rw[zA O]
  rw[this]at hR;exact hR
 obtain⟨y,rfl⟩:=zf (show 0<=x by omega);have A:y<1024:=by omega
 have m:pE ow (y:Int)=ow y:=by unfold pE;rw[zB O];rfl
 rw[m]at hR;have b:((y:Int).tdiv 8)=((y/8:Nat):Int):=by rw[Xq O];simp
 have z:(((y/8:Nat):Int).tdiv 8)=((y/8/8:Nat):Int):=by rw[Xq O];simp
 have g:(((y/8:Nat):Int).tmod 8)=((y/8%8:Nat):Int):=by rw[QY O];simp
 have s:((y:Int).tmod 8)=((y%8:Nat):Int):=by rw[QY O];simp
 have d:8*(y/8/8)+y/8%8=y/8:=by omega
 have a:8*(y/8)+y%8=y:=by omega
 refine nz aB (cC b O (nz aB (cC z O (bO ?_))));refine qQ O ?_;rw[add_lit,add_lit,zG,nY];refine h.rM O (bW.intro ?_);cases hM:M (y/8/8)with
 | none=>
  refine cJ rfl (cJ rfl ?_);have e:=h.lz _ O hM (y/8%8) O;rw[d]at e;have:=h.jc _ O e (y%8) O;rw[a]at this;rw[this]at hR;exact hR
 | some q=>
  refine bZ rfl (nz aB (cC b O (nz aB (bO ?_))));rw[g];refine qQ O ?_;rw[add_lit,zG,nY];refine h.rL O hM O ?_;rw[d];cases hL:Lf (y/8)with
  | none=>
   refine cJ rfl ?_;have:=h.jc _ O hL (y%8) O;rw[a]at this;rw[this]at hR;exact hR
  | some r=>
   refine bZ rfl (nz aB (cC b O (nz aB (bO ?_))));rw[g];refine qQ O ?_;rw[add_lit,zG,nY];refine h.rL O hM O ?_;rw[d,hL];refine nz aB (bO ?_);rw[s];refine qQ O ?_;rw[add_lit,zG,nY];refine h.rN O hL O ?_;rw[a];exact hR
theorem Ea {R:Option Addr->Hp->Prop}(hR:∀σ' p,aG U σ'->U.size<=p->gJ σ' (λb=>U.size<=b) p (λ_=>0)->R (some ⟨p,0,none⟩) σ'):Qi.c U R:=by
 refine Qi.o ?_;unfold Qi.v;refine nw (cs:=[.bool true,.pointer none,.pointer none,.pointer none,.pointer none,.pointer none,.pointer none,.pointer none,.pointer none,.pointer none,.pointer none,.pointer none,.pointer none,.pointer none,.pointer none,.pointer none,.pointer none]) λv d e a=>?_;refine hR v _ e (zC _) ⟨λ_=>none,λ_=>none,a,?_,?_,?_,?_,zC _,?_,?_,?_,?_,?_⟩<;>intros<;>simp_all
theorem PS (h:kv U F p M Lf ow){i:Nat}(hi:i<16){R:Option Addr->Hp->Prop}
 (hR:∀σ' M' q,Ext F U σ'->M' i=some q->kv σ' (Grow F U) p M' Lf ow->R (some ⟨q,0,none⟩) σ'):Wx.c (some ⟨p,1+i,none⟩) U R:=by
 refine Wx.o ?_;unfold Wx.v;refine Jn.intro (bO (h.rM hi ?_));cases hM:M i with
 | some q=>exact bZ rfl (bO (h.rM hi (by rw[hM];exact hR U M q (Ext.refl _ _) hM (h.move (λ_ _ _=>rfl) λ_ _ B=>.inl B))))
 | none=>
  refine cJ rfl (nw (cs:=[.pointer none,.pointer none,.pointer none,.pointer none,.pointer none,.pointer none,.pointer none,.pointer none]) λD C e1 z=>bO ?_);have hp:=h.hd.lt;refine(e1.bX h.hd id).s0 aE λw o2 u=>?_;have s:(Value.bool true::(List.range 16).map λi=>ptr (M i)).set (1+i) (.pointer (some ⟨U.size,0,none⟩))=.bool true::(List.range 16).map λj=>ptr (gF M i (some U.size) j):=by
   rw[Nat.add_comm,sd,KP]
   congr 1
   apply k5;intro j _;simp only[gF];split<;>rfl
  rw[s]at u;have r:∀{b:Nat} {cs:List Value},bY U b cs->b≠p->bY w b cs:=λx y=>Wm o2 (e1.bX x id) y;have A:kv w (Grow F U) p (gF M i (some U.size)) Lf ow:=by
   refine⟨u,λj q e a=>?_,λj e a=>?_,λk q d a=>r (h.leaf k q d a) (h.fl k q d a).2,h.jc,.inl h.fp,λj q e a=>?_,λk q d a=>⟨.inl (h.fl k q d a).1,(h.fl k q d a).2⟩,λj k q e d m g=>?_,h.ll,λj k q e d a=>?_⟩
   ·by_cases hji:j=i
    ·subst hji;rw[ZR]at a;cases a;have y:=h.lz j e hM;have:((List.range 8).map λk=>ptr (Lf (8*j+k)))=[.pointer none,.pointer none,.pointer none,.pointer none,.pointer none,.pointer none,.pointer none,.pointer none]:=by
      have:((List.range 8).map λk=>ptr (Lf (8*j+k)))=(List.range 8).map λ_=>Value.pointer none:=by
       apply k5;intro k d;rw[ze]at d;rw[y k d];rfl
      rw[this];rfl
     rw[this];exact Wm o2 z O
    ·rw[QK _ _ hji]at a;exact r (h.jG j q e a) (h.fm j q e a).2
   ·by_cases hji:j=i
    ·subst hji;rw[ZR]at a;cases a
    ·rw[QK _ _ hji]at a;exact h.lz j e a
   ·by_cases hji:j=i
    ·subst hji;rw[ZR]at a;cases a;exact⟨.inr (zC _),O⟩
    ·rw[QK _ _ hji]at a;exact⟨.inl (h.fm j q e a).1,(h.fm j q e a).2⟩
   ·by_cases hji:j=i
    ·by_cases hki:k=i
     ·omega
     ·subst hji;rw[ZR]at m;cases m;rw[QK _ _ hki]at g;have:=(h.jG k _ d g).lt;omega
    ·rw[QK _ _ hji]at m;by_cases hki:k=i
     ·subst hki;rw[ZR]at g;cases g;have:=(h.jG j _ e m).lt;omega
     ·rw[QK _ _ hki]at g;exact h.mm j k q e d m g
   ·by_cases hji:j=i
    ·subst hji;rw[ZR]at a;cases a;intro hl;have:=(h.leaf k _ d hl).lt;omega
    ·rw[QK _ _ hji]at a;exact h.ml j k q e d a
  refine bO (A.rM hi ?_);rw[ZR];exact hR w _ U.size (e1.to.trans (o2.ext.sub λb x=>x▸h.fp)) (ZR _ _ _) A
theorem Mw (h:kv U F p M Lf ow){i j q:Nat}(hi:i<16)(hj:j<8)(hq:M i=some q){R:Option Addr->Hp->Prop}
 (hR:∀σ' L' r,Ext F U σ'->L' (8*i+j)=some r->kv σ' (Grow F U) p M L' ow->R (some ⟨r,0,none⟩) σ'):WA.c (some ⟨q,j,none⟩) U R:=by
 refine WA.o ?_;unfold WA.v;have V:8*i+j<128:=by omega
 refine Jn.intro (bO (h.rL hi hq hj ?_));cases hL:Lf (8*i+j)with
 | some r=>exact bZ rfl (bO (h.rL hi hq hj (by rw[hL];exact hR U Lf r (Ext.refl _ _) hL (h.move (λ_ _ _=>rfl) λ_ _ E=>.inl E))))
 | none=>
  refine cJ rfl (nw (cs:=[.int .i64 0,.int .i64 0,.int .i64 0,.int .i64 0,.int .i64 0,.int .i64 0,.int .i64 0,.int .i64 0]) λX W e1 N=>bO ?_);have Q:=h.jG i q hi hq;have S:=Q.lt;have E:=h.fm i q hi hq;refine(e1.bX Q id).s0 aE λJ o2 z=>?_;have y:∀{b:Nat} {cs:List Value},bY U b cs->b≠q->bY J b cs:=λK L=>Wm o2 (e1.bX K id) L;have P:kv J (Grow F U) p M (gF Lf (8*i+j) (some U.size)) ow:=by
   refine⟨y h.hd (Ne.symm E.2),λm x g a=>?_,λm g a C H=>?_,λk r d s=>?_,λk d s=>?_,.inl h.fp,λm x g a=>⟨.inl (h.fm m x g a).1,(h.fm m x g a).2⟩,λk r d s=>?_,h.mm,λk G r A D w u=>?_,λm k x g d a=>?_⟩
   ·by_cases hii:m=i
    ·subst hii;rw[hq]at a;cases a;rw[KP]at z;have:((List.range 8).map (gF (λj=>ptr (Lf (8*m+j))) j (.pointer (some ⟨U.size,0,none⟩))))=(List.range 8).map λk=>ptr (gF Lf (8*m+j) (some U.size) (8*m+k)):=by
      apply k5;intro k _;simp only[gF];by_cases hkj:k=j
      ·subst hkj;simp[ptr]
      ·have:¬8*m+k=8*m+j:=by omega
       simp[hkj,this]
     rw[this]at z;exact z
    ·have B:x≠q:=λe=>by subst e;exact hii (h.mm m i x g hi a hq)
     have:=y (h.jG m x g a) B;have e:((List.range 8).map λk=>ptr (gF Lf (8*i+j) (some U.size) (8*m+k)))=(List.range 8).map λk=>ptr (Lf (8*m+k)):=by
      apply k5;intro k d;rw[ze]at d;rw[QK _ _ O]
     rw[e];exact this
   ·have B:m≠i:=λe=>by subst e;rw[hq]at a;cases a
    rw[QK _ _ O];exact h.lz m g a C H
   ·by_cases hkk:k=8*i+j
    ·subst hkk;rw[ZR]at s;cases s;have L:=h.jc _ V hL;have:((List.range 8).map λC=>Value.int .i64 ((ow (8*(8*i+j)+C):Nat):Int))=[.int .i64 0,.int .i64 0,.int .i64 0,.int .i64 0,.int .i64 0,.int .i64 0,.int .i64 0,.int .i64 0]:=by
      have:((List.range 8).map λC=>Value.int .i64 ((ow (8*(8*i+j)+C):Nat):Int))=(List.range 8).map λ_=>Value.int .i64 0:=by
       apply k5;intro k d;rw[ze]at d;rw[L k d];rfl
      rw[this];rfl
     rw[this];exact Wm o2 N O
    ·rw[QK _ _ hkk]at s;exact y (h.leaf k r d s) λe=>by subst e;exact h.ml i k r hi d hq s
   ·by_cases hkk:k=8*i+j
    ·subst hkk;rw[ZR]at s;cases s
    ·rw[QK _ _ hkk]at s;exact h.jc k d s
   ·by_cases hkk:k=8*i+j
    ·subst hkk;rw[ZR]at s;cases s;have:=h.hd.lt;exact⟨.inr (zC _),O⟩
    ·rw[QK _ _ hkk]at s;exact⟨.inl (h.fl k r d s).1,(h.fl k r d s).2⟩
   ·by_cases e1':k=8*i+j
    ·by_cases e2':G=8*i+j
     ·omega
     ·subst e1';rw[ZR]at w;cases w;rw[QK _ _ e2']at u;have:=(h.leaf G _ D u).lt;omega
    ·rw[QK _ _ e1']at w;by_cases e2':G=8*i+j
     ·subst e2';rw[ZR]at u;cases u;have:=(h.leaf k _ A w).lt;omega
     ·rw[QK _ _ e2']at u;exact h.ll k G r A D w u
   ·by_cases hkk:k=8*i+j
    ·subst hkk;rw[ZR];intro e;cases e;have:=(h.jG m _ g a).lt;omega
    ·rw[QK _ _ hkk];exact h.ml m k x g d a
  refine bO (P.rL hi hq hj ?_);rw[ZR];exact hR J _ U.size (e1.to.trans (o2.ext.sub λb K=>K▸E.1)) (ZR _ _ _) P
theorem TH (h:kv U F p M Lf ow){k r j no:Nat}(hk:k<128)(hr:Lf k=some r)(hj:j<8){σ':Hp}(ho:QT U σ' r)(hb:bY σ' r (((List.range 8).map λj=>Value.int .i64 ((ow (8*k+j):Nat):Int)).set j (.int .i64 (no:Int)))) :
 kv σ' F p M Lf (gF ow (8*k+j) no):=by
 refine⟨Wm ho h.hd (Ne.symm (h.fl k r hk hr).2),λi q x y=>Wm ho (h.jG i q x y) λe=>by subst e;exact h.ml i k q x hk y hr,h.lz,λd w g b=>?_,λd g b u s=>?_,h.fp,h.fm,h.fl,h.mm,h.ll,h.ml⟩
 ·by_cases hkk:d=k
  ·subst hkk;rw[hr]at b;cases b;rw[KP]at hb;have:((List.range 8).map (gF (λj=>Value.int .i64 ((ow (8*d+j):Nat):Int)) j (.int .i64 (no:Int))))=(List.range 8).map λu=>Value.int .i64 ((gF ow (8*d+j) no (8*d+u):Nat):Int):=by
    apply k5;intro a _;simp only[gF];by_cases haj:a=j
    ·subst haj;simp
    ·have:¬8*d+a=8*d+j:=by omega
     simp[haj,this]
   rw[this]at hb;exact hb
  ·have m:w≠r:=λe=>by subst e;exact hkk (h.ll d k w g hk b hr)
   have:=Wm ho (h.leaf d w g b) m;have e:((List.range 8).map λa=>Value.int .i64 ((gF ow (8*k+j) no (8*d+a):Nat):Int))=(List.range 8).map λa=>Value.int .i64 ((ow (8*d+a):Nat):Int):=by
    apply k5;intro a ha;rw[ze]at ha;rw[QK _ _ O]
   rw[e];exact this
 ·have m:d≠k:=λe=>by subst e;rw[hr]at b;cases b
  rw[QK _ _ O];exact h.jc d g b u s
theorem Sg (h:kv U F p M Lf ow){i j q:Nat}(hi:i<16)(hj:j<8)(hq:M i=some q)(hz:∀a,a<8->ow (8*(8*i+j)+a)=0){σ':Hp}(ho:QT U σ' q)(hb:bY σ' q (((List.range 8).map λj=>ptr (Lf (8*i+j))).set j (.pointer none))) :
 kv σ' F p M (gF Lf (8*i+j) none) ow:=by
 have E:=h.fm i q hi hq;refine⟨Wm ho h.hd (Ne.symm E.2),λd y g b=>?_,λd g b G z=>?_,λk r x m=>?_,λk x m=>?_,h.fp,h.fm,λk r x m=>?_,h.mm,λk D r A C u s=>?_,λd k y g w b=>?_⟩
 ·by_cases hii:d=i
  ·subst hii;rw[hq]at b;cases b;rw[KP]at hb;have:((List.range 8).map (gF (λj=>ptr (Lf (8*d+j))) j (.pointer none)))=(List.range 8).map λk=>ptr (gF Lf (8*d+j) none (8*d+k)):=by
    apply k5;intro k _;simp only[gF];by_cases hkj:k=j
    ·subst hkj;simp[ptr]
    ·have:¬8*d+k=8*d+j:=by omega
     simp[hkj,this]
   rw[this]at hb;exact hb
  ·have B:y≠q:=λe=>by subst e;exact hii (h.mm d i y g hi b hq)
   have:=Wm ho (h.jG d y g b) B;have e:((List.range 8).map λk=>ptr (gF Lf (8*i+j) none (8*d+k)))=(List.range 8).map λk=>ptr (Lf (8*d+k)):=by
    apply k5;intro k w;rw[ze]at w;rw[QK _ _ O]
   rw[e];exact this
 ·simp only[gF];split
  ·rfl
  ·exact h.lz d g b G z
 ·by_cases hkk:k=8*i+j
  ·subst hkk;rw[ZR]at m;cases m
  ·rw[QK _ _ hkk]at m;exact Wm ho (h.leaf k r x m) λe=>by subst e;exact h.ml i k r hi x hq m
 ·by_cases hkk:k=8*i+j
  ·subst hkk;exact hz
  ·rw[QK _ _ hkk]at m;exact h.jc k x m
 ·by_cases hkk:k=8*i+j
  ·subst hkk;rw[ZR]at m;cases m
  ·rw[QK _ _ hkk]at m;exact h.fl k r x m
 ·by_cases e1':k=8*i+j
  ·subst e1';rw[ZR]at u;cases u
  ·rw[QK _ _ e1']at u;by_cases e2':D=8*i+j
   ·subst e2';rw[ZR]at s;cases s
   ·rw[QK _ _ e2']at s;exact h.ll k D r A C u s
 ·by_cases hkk:k=8*i+j
  ·subst hkk;rw[ZR];intro e;cases e
  ·rw[QK _ _ hkk];exact h.ml d k y g w b
theorem TT (h:kv U F p M Lf ow){i:Nat}(hi:i<16)(hz:∀j,j<8->Lf (8*i+j)=none){σ':Hp}(ho:QT U σ' p)(hb:bY σ' p ((Value.bool true::(List.range 16).map λi=>ptr (M i)).set (1+i) (.pointer none))) :
 kv σ' F p (gF M i none) Lf ow:=by
 have m:(Value.bool true::(List.range 16).map λi=>ptr (M i)).set (1+i) (.pointer none)=.bool true::(List.range 16).map λj=>ptr (gF M i none j):=by
  rw[Nat.add_comm,sd,KP]
  congr 1
  apply k5;intro j _;simp only[gF];split<;>rfl
 rw[m]at hb;have g:∀{j q},gF M i none j=some q->M j=some q:=λ{j q} d=>by
  by_cases hji:j=i
  ·subst hji;rw[ZR]at d;cases d
  ·rwa [QK _ _ hji]at d
 refine⟨hb,λj q e d=>Wm ho (h.jG j q e (g d)) (h.fm j q e (g d)).2,λj e d=>?_,λk q r d=>Wm ho (h.leaf k q r d) (h.fl k q r d).2,h.jc,h.fp,λj q e d=>h.fm j q e (g d),h.fl,λa b q s hb u w=>h.mm a b q s hb (g u) (g w),h.ll,λa k q s r d=>h.ml a k q s r (g d)⟩;by_cases hji:j=i
 ·subst hji;exact hz
 ·rw[QK _ _ hji]at d;exact h.lz j e d
theorem R5 (h:gJ U F p ow){x no:Nat}(hx:x<1024){R:aP}(hR:∀σ',Ext F U σ'->gJ σ' (Grow F U) p (gF ow x no)->R σ'):Zs.c (aW p) (x:Int) (no:Int) U R:=by
 refine Zs.o ?_;unfold Zs.v;obtain⟨M,Lf,h⟩:=h;have P:((x:Int).tdiv 8)=((x/8:Nat):Int):=by rw[Xq O];simp
 have t2:(((x/8:Nat):Int).tdiv 8)=((x/8/8:Nat):Int):=by rw[Xq O];simp
 have t3:(((x/8:Nat):Int).tmod 8)=((x/8%8:Nat):Int):=by rw[QY O];simp
 have t4:((x:Int).tmod 8)=((x%8:Nat):Int):=by rw[QY O];simp
 have hk:8*(x/8/8)+x/8%8=x/8:=by omega
 have V:8*(x/8)+x%8=x:=by omega
 refine nz aB (cC P O (nz aB (cC t2 O (bO ?_))));refine qQ O ?_;rw[add_lit,add_lit,zG,nY];refine PS h O λS M1 q e1 K h1=>?_;refine nz aB (cC P O (nz aB (bO ?_)));rw[t3];refine qQ O ?_;rw[add_lit,zG,nY];refine Mw h1 O O K λv2 L2 r e2 N h2=>?_;rw[hk]at N;have Q:Ext F U v2:=e1.iK e2;refine nz aB (bO ?_);rw[t4];refine qQ O ?_;rw[add_lit,zG,nY];have s:x/8<128:=by omega
 refine(h2.leaf _ r s N).s0 aE λv3 o3 b3=>?_;have A:=TH h2 s N O o3 b3;rw[V]at A;have a:∀b,Grow (Grow F U) S b->Grow F U b:=λb u=>by
  rcases u with h|h
  ·exact h
  ·exact .inr (zP e1.1 h)
 have J:Ext F U v3:=Q.eY o3.ext λb u=>by subst u;exact a _ (h2.fl _ _ s N).1
 have y:∀v L4,Ext F U v->kv v (Grow (Grow F U) S) p M1 L4 (gF ow x no) →
  (bU (some ⟨q,0,none⟩) λi=>fW (i.add 0) v λt42=>fW (i.add 1) v λL=>fW (i.add 2) v λG=>fW (i.add 3) v λE=>fW (i.add 4) v λD=>fW (i.add 5) v λH=>fW (i.add 6) v λB=>fW (i.add 7) v λC=>
   If (t42.isNone&&(L.isNone&&(G.isNone&&(E.isNone&&(D.isNone&&(H.isNone&&(B.isNone&&(C.isNone&&true)))))))) (Nz 8<|Ar .i64 ((x:Int).tdiv 8) λZ=>Nz 8<|Ar .i64 (Z.tdiv 8) λt48=>bU (some ⟨p,0,none⟩) λa49=>oS (a49.add 1) 16 t48 1 λa51=>eP a51 (.pointer none) v λv4=>R v4) (R v)):=by
  intro v L4 ev h4;have m:=h4.jG _ q O K;have g:∀j,j<8->((List.range 8).map λj=>ptr (L4 (8*(x/8/8)+j)))[0+j]?=some (.pointer ((L4 (8*(x/8/8)+j)).map λq=>⟨q,0,none⟩)):=λj z=>by rw[zG,KW _ z];rfl
  refine bO (m.rP (g 0 O) (m.rP (g 1 O) (m.rP (g 2 O) (m.rP (g 3 O) (m.rP (g 4 O) (m.rP (g 5 O) (m.rP (g 6 O) (m.rP (g 7 O) ?_))))))));have fin:∀w,Ext F U w->gJ w (Grow (Grow F U) S) p (gF ow x no)->R w:=λw ew hw=>hR w ew (gJ.loc.mono hw λb _ u=>a b u);refine cU (λe=>?_) λ_=>fin v ev ⟨_,_,h4⟩;have hz:∀j,j<8->L4 (8*(x/8/8)+j)=none:=by
   simp only[Option.isNone_map,ub,zF,Option.isNone_iff_eq_none]at e;intro j z;obtain⟨W,a1,X,a3,a4,Y,a6,a7⟩:=e
   match j,z with
   | 0,_=>exact W
   | 1,_=>exact a1
   | 2,_=>exact X
   | 3,_=>exact a3
   | 4,_=>exact a4
   | 5,_=>exact Y
   | 6,_=>exact a6
   | 7,_=>exact a7
  refine nz aB (cC P O (nz aB (cC t2 O (bO ?_))));refine qQ O ?_;rw[add_lit,add_lit,zG,nY];refine h4.hd.s0 aE λv4 o4 b4=>fin v4 (ev.eY o4.ext λb u=>by subst u;exact a _ h4.fp) ⟨_,_,TT h4 O hz o4 b4⟩
 refine Jn.intro (bO ?_);have d:=A.leaf _ r s N;have g:∀j,j<8->((List.range 8).map λj=>Value.int .i64 ((gF ow x no (8*(x/8)+j):Nat):Int))[0+j]?=some (.int .i64 ((gF ow x no (8*(x/8)+j):Nat):Int)):=λj z=>by rw[zG,KW _ z]
 refine d.rI (g 0 O) (d.rI (g 1 O) (d.rI (g 2 O) (d.rI (g 3 O) (d.rI (g 4 O) (d.rI (g 5 O) (d.rI (g 6 O) (d.rI (g 7 O) ?_)))))));refine cU (λe=>?_) λ_=>y v3 L2 J A;have hz:∀j,j<8->gF ow x no (8*(8*(x/8/8)+x/8%8)+j)=0:=by
  rw[hk];simp only[sT,ub,zF,za]at e;intro j z;obtain⟨W,a1,X,a3,a4,Y,a6,a7⟩:=e
  match j,z with
  | 0,_=>exact W
  | 1,_=>exact a1
  | 2,_=>exact X
  | 3,_=>exact a3
  | 4,_=>exact a4
  | 5,_=>exact Y
  | 6,_=>exact a6
  | 7,_=>exact a7
 refine nz aB (cC P O (nz aB (bO ?_)));rw[t3];refine qQ O ?_;rw[add_lit,zG,nY];have m:=A.jG _ q O K;refine m.s0 aE λv5 o5 b5=>?_;exact y v5 _ (J.eY o5.ext λb u=>by subst u;exact a _ (A.fm _ _ O K).1) (Sg A O O K hz o5 b5)
def ju (ow:Nat->Nat)(a m no:Nat):Nat->Nat:=if YS 1024 a m then λp=>if a<=p/\p<a+m then no else ow p else ow
def uO (a m:Int):Int:=if YS 1024 a m then 0 else 1
theorem Cd (h:gJ U F p ow)(a m:Int)(ha : -1000000000000<=a)(ha2:a<=1000000000000)(no:Nat){R:aN}(h1:YS 1024 a m=false->R 1 U)
 (hR:∀x y:Nat,a=x->m=y->1<=y->x+y<=1024->∀σ',Ext F U σ'->gJ σ' (Grow F U) p (ju ow x y no)->R 0 σ'):Yu.c (aW p) a m (no:Int) U R:=by
 refine Yu.o ?_;unfold Yu.v;have d:¬(0<=a/\1<=m/\m<=1024-a)->R 1 U:=λE=>h1 (by simp only[YS,←uF];exact zJ E);refine zx h (bZ rfl (bW.intro (cL (λD=>bW.intro (cJ rfl (bW.intro (cJ rfl (cJ rfl (d O)))))) λD=>?_)));refine bW.intro (cL (λC=>bW.intro (cJ rfl (cJ rfl (d O)))) λC=>?_);refine bW.intro (cL (λB=>cJ rfl (d O)) λB=>ar O O (cL (λs=>d O) λs=>?_));obtain⟨x,rfl⟩:=zf (show 0<=a by omega);obtain⟨y,rfl⟩:=zf (show 0<=m by omega);have g:YS 1024 (x:Int) (y:Int)=true:=by simp only[YS,zF,zU];omega
 refine Zw (a:=bN) (λ(t:Int) v=>∃i:Nat,t=((x+i:Nat):Int)/\i<=y/\Ext F U v/\gJ v (Grow F U) p (λz=>if x<=z/\z<x+i then no else ow z)) (λt _=>x+y-t.toNat) ⟨0,rfl,O,Ext.refl _ _,?_⟩ ?_
 ·have:(λz=>if x<=z/\z<x+0 then no else ow z)=ow:=by
   funext z;rw[zA O]
  rw[this];exact gJ.loc.mono h λb _ j=>.inl j
 rintro t v ⟨i,rfl,H,e,r⟩;refine cC (m:=x+y) O O (cL (λG=>?_) λA=>?_)
 ·refine R5 r O λK w u=>cC (m:=x+(i+1)) O O ⟨⟨i+1,rfl,O,e.iK w,?_⟩,O⟩;refine gJ.congr (gJ.loc.mono u λb _ j=>?_) λz J=>?_
  ·rcases j with h|h
   ·exact h
   ·exact .inr (zP e.1 h)
  ·simp only[gF];by_cases hzi:z=x+i
   ·subst hzi;rw[zB rfl,zB O]
   ·rw[zA hzi];by_cases hin:x<=z/\z<x+i
    ·rw[zB hin,zB O]
    ·rw[zA hin,zA O]
 ·have:i=y:=by omega
  subst this;refine hR x i rfl rfl O O v e ?_;unfold ju;rw[g];exact r
theorem Tv (h:gJ U F p ow)(a m:Nat)(ha:a<=1000000){no:Nat}(hno:1<=no)(hno2:no<=1000){R:aN}(hR:∀σ',Ext F U σ'->gJ σ' (Grow F U) p (ju ow a m no)->R (uO a m) σ'):Yq.c (aW p) a m (no:Int) U R:=by
 refine Yq.o ?_;unfold Yq.v;refine zx h (bW.intro (cJ rfl (bW.intro (dR O (dR O ?_)))));refine Cd h a m O O no (λj=>?_) λx y A u w z σ' e s=>?_
 ·have:=hR U (Ext.refl _ _) (by unfold ju;rw[j];exact gJ.loc.mono h λb _ r=>.inl r);unfold uO at this;rw[j]at this;exact this
 ·have g:a=x:=by omega
  have i:m=y:=by omega
  subst g;subst i;have d:YS 1024 (a:Int) (m:Int)=true:=by simp only[YS,zF,zU];omega
  have:=hR σ' e s;unfold uO at this;rw[d]at this;exact this
theorem SG (h:gJ U F p ow)(a m:Nat)(ha:a<=1000000){R:aN}(hR:∀σ',Ext F U σ'->gJ σ' (Grow F U) p (ju ow a m 0)->R (uO a m) σ'):XP.c (aW p) a m U R:=by
 refine XP.o ?_;unfold XP.v;refine Cd h a m O O 0 (λj=>?_) λx y A u w z σ' e s=>?_
 ·have:=hR U (Ext.refl _ _) (by unfold ju;rw[j];exact gJ.loc.mono h λb _ r=>.inl r);unfold uO at this;rw[j]at this;exact this
 ·have g:a=x:=by omega
  have i:m=y:=by omega
  subst g;subst i;have d:YS 1024 (a:Int) (m:Int)=true:=by simp only[YS,zF,zU];omega
  have:=hR σ' e s;unfold uO at this;rw[d]at this;exact this
end Go.Ar
namespace Go.Proofs
open Go.Shelf
def Tryz.iR:Go.Shelf.Ren:=⟨fun|7=>252|10=>272|n=>n,fun|23=>176|26=>3|3=>4|28=>63|0=>0|27=>62|33=>116|4=>4|n=>n,fun|n=>n⟩
theorem Tryz.nT:Go.Proofs.SlLaysZI.n7 Tryz.prog Tryz.iR:={
 mixed:=by kernel_rfl
 f7:=⟨Tryz.f252.name,by decide,Tryz.func252.trans (congrArg some (by kernel_rfl))⟩
 f10:=⟨Tryz.f272.name,by decide,Tryz.func272.trans (congrArg some (by kernel_rfl))⟩
 t0:=Tryz.underlying0
 a0:=Tryz.isAgg0
 z0:=Tryz.sizeOf0
 v0:=Tryz.zeroValue0
 t4:=Tryz.underlying4
 a4:=Tryz.isAgg4
 z4:=Tryz.sizeOf4
 v4:=Tryz.zeroValue4
 t23:=Tryz.underlying176
 a23:=Tryz.isAgg176
 z23:=Tryz.sizeOf176
 v23:=Tryz.zeroValue176
 t26:=Tryz.underlying3
 a26:=Tryz.isAgg3
 z26:=Tryz.sizeOf3
 v26:=Tryz.zeroValue3
 t27:=Tryz.underlying62
 a27:=Tryz.isAgg62
 z27:=Tryz.sizeOf62
 v27:=Tryz.zeroValue62
 t28:=Tryz.underlying63
 a28:=Tryz.isAgg63
 z28:=Tryz.sizeOf63
 v28:=Tryz.zeroValue63
 t33:=Tryz.underlying116
 a33:=Tryz.isAgg116
 z33:=Tryz.sizeOf116
 v33:=Tryz.zeroValue116}
def Tryz.j0:Go.Shelf.Ren:=⟨fun|6=>31|8=>60|9=>61|11=>98|13=>100|12=>99|23=>159|24=>160|14=>150|15=>151|16=>152|17=>153|18=>154|19=>155|20=>156|21=>157|22=>158|25=>208|26=>209|27=>210|28=>211|29=>212|30=>213|31=>246|n=>n,fun|26=>3|28=>63|24=>27|0=>0|3=>3|37=>168|48=>258|50=>81|4=>4|40=>251|39=>250|45=>255|5=>5|9=>9|51=>294|55=>298|57=>332|58=>333|33=>116|n=>n,fun|n=>n⟩
theorem Tryz.re:Go.Proofs.SlLaysZI.n6 Tryz.prog Tryz.j0:={
 mixed:=by kernel_rfl
 f6:=⟨Tryz.f31.name,by decide,Tryz.func31.trans (congrArg some (by kernel_rfl))⟩
 f8:=⟨Tryz.f60.name,by decide,Tryz.func60.trans (congrArg some (by kernel_rfl))⟩
 f11:=⟨Tryz.f98.name,by decide,Tryz.func98.trans (congrArg some (by kernel_rfl))⟩
 t0:=Tryz.underlying0
 a0:=Tryz.isAgg0
 z0:=Tryz.sizeOf0
 v0:=Tryz.zeroValue0
 t24:=Tryz.underlying27
 a24:=Tryz.isAgg27
 z24:=Tryz.sizeOf27
 v24:=Tryz.zeroValue27
 t26:=Tryz.underlying3
 a26:=Tryz.isAgg3
 z26:=Tryz.sizeOf3
 v26:=Tryz.zeroValue3
 t28:=Tryz.underlying63
 a28:=Tryz.isAgg63
 z28:=Tryz.sizeOf63
 v28:=Tryz.zeroValue63
 i26:=by kernel_rfl}
def Tryz.ox:Go.Shelf.Ren:=⟨fun|8=>60|11=>98|n=>n,fun|26=>3|28=>63|24=>27|0=>0|33=>116|4=>4|n=>n,fun|n=>n⟩
theorem Tryz.wX:Go.Proofs.SlLaysZI.n8 Tryz.prog Tryz.ox:={
 mixed:=by kernel_rfl
 f8:=⟨Tryz.f60.name,by decide,Tryz.func60.trans (congrArg some (by kernel_rfl))⟩
 f11:=⟨Tryz.f98.name,by decide,Tryz.func98.trans (congrArg some (by kernel_rfl))⟩
 t0:=Tryz.underlying0
 a0:=Tryz.isAgg0
 z0:=Tryz.sizeOf0
 v0:=Tryz.zeroValue0
 t24:=Tryz.underlying27
 a24:=Tryz.isAgg27
 z24:=Tryz.sizeOf27
 v24:=Tryz.zeroValue27
 t26:=Tryz.underlying3
 a26:=Tryz.isAgg3
 z26:=Tryz.sizeOf3
 v26:=Tryz.zeroValue3
 t28:=Tryz.underlying63
 a28:=Tryz.isAgg63
 z28:=Tryz.sizeOf63
 v28:=Tryz.zeroValue63
 i26:=by kernel_rfl}
def Tryz.oz:Go.Shelf.Ren:=⟨fun|5=>61|8=>100|7=>99|19=>159|20=>160|10=>150|11=>151|12=>152|13=>153|14=>154|15=>155|16=>156|17=>157|18=>158|30=>208|31=>209|32=>210|33=>211|34=>212|35=>213|40=>246|n=>n,fun|23=>27|25=>3|3=>3|32=>168|22=>27|0=>0|44=>258|46=>81|4=>4|36=>251|35=>250|41=>255|5=>5|9=>9|53=>294|57=>298|63=>332|64=>333|n=>n,fun|n=>n⟩
theorem Tryz.qi:Go.Proofs.SlLaysM.n5 Tryz.prog Tryz.oz:={
 mixed:=by kernel_rfl
 f5:=⟨Tryz.f61.name,by decide,Tryz.func61.trans (congrArg some (by kernel_rfl))⟩
 f7:=⟨Tryz.f99.name,by decide,Tryz.func99.trans (congrArg some (by kernel_rfl))⟩
 f8:=Tryz.func100.trans (congrArg some (by kernel_rfl))
 f10:=⟨Tryz.f150.name,by decide,Tryz.func150.trans (congrArg some (by kernel_rfl))⟩
 f11:=⟨Tryz.f151.name,by decide,Tryz.func151.trans (congrArg some (by kernel_rfl))⟩
 f12:=⟨Tryz.f152.name,by decide,Tryz.func152.trans (congrArg some (by kernel_rfl))⟩
 f13:=⟨Tryz.f153.name,by decide,Tryz.func153.trans (congrArg some (by kernel_rfl))⟩
 f14:=⟨Tryz.f154.name,by decide,Tryz.func154.trans (congrArg some (by kernel_rfl))⟩
 f15:=⟨Tryz.f155.name,by decide,Tryz.func155.trans (congrArg some (by kernel_rfl))⟩
 f16:=⟨Tryz.f156.name,by decide,Tryz.func156.trans (congrArg some (by kernel_rfl))⟩
 f17:=⟨Tryz.f157.name,by decide,Tryz.func157.trans (congrArg some (by kernel_rfl))⟩
 f18:=⟨Tryz.f158.name,by decide,Tryz.func158.trans (congrArg some (by kernel_rfl))⟩
 f19:=Tryz.func159.trans (congrArg some (by kernel_rfl))
 f20:=Tryz.func160.trans (congrArg some (by kernel_rfl))
 f30:=⟨Tryz.f208.name,by decide,Tryz.func208.trans (congrArg some (by kernel_rfl))⟩
 f31:=Tryz.func209.trans (congrArg some (by kernel_rfl))
 f32:=Tryz.func210.trans (congrArg some (by kernel_rfl))
 f33:=⟨Tryz.f211.name,by decide,Tryz.func211.trans (congrArg some (by kernel_rfl))⟩
 f34:=⟨Tryz.f212.name,by decide,Tryz.func212.trans (congrArg some (by kernel_rfl))⟩
 f35:=⟨Tryz.f213.name,by decide,Tryz.func213.trans (congrArg some (by kernel_rfl))⟩
 f40:=⟨Tryz.f246.name,by decide,Tryz.func246.trans (congrArg some (by kernel_rfl))⟩
 t0:=Tryz.underlying0
 a0:=Tryz.isAgg0
 z0:=Tryz.sizeOf0
 v0:=Tryz.zeroValue0
 t3:=Tryz.underlying3
 a3:=Tryz.isAgg3
 z3:=Tryz.sizeOf3
 v3:=Tryz.zeroValue3
 t4:=Tryz.underlying4
 a4:=Tryz.isAgg4
 z4:=Tryz.sizeOf4
 v4:=Tryz.zeroValue4
 t5:=Tryz.underlying5
 a5:=Tryz.isAgg5
 z5:=Tryz.sizeOf5
 v5:=Tryz.zeroValue5
 t9:=Tryz.underlying9
 a9:=Tryz.isAgg9
 z9:=Tryz.sizeOf9
 v9:=Tryz.zeroValue9
 t22:=Tryz.underlying27
 a22:=Tryz.isAgg27
 z22:=Tryz.sizeOf27
 v22:=Tryz.zeroValue27
 t23:=Tryz.underlying27
 a23:=Tryz.isAgg27
 z23:=Tryz.sizeOf27
 v23:=Tryz.zeroValue27
 t25:=Tryz.underlying3
 a25:=Tryz.isAgg3
 z25:=Tryz.sizeOf3
 v25:=Tryz.zeroValue3
 t32:=Tryz.underlying168
 a32:=Tryz.isAgg168
 z32:=Tryz.sizeOf168
 v32:=Tryz.zeroValue168
 t35:=Tryz.underlying250
 a35:=Tryz.isAgg250
 z35:=Tryz.sizeOf250
 v35:=Tryz.zeroValue250
 t36:=Tryz.underlying251
 a36:=Tryz.isAgg251
 z36:=Tryz.sizeOf251
 v36:=Tryz.zeroValue251
 t41:=Tryz.underlying255
 a41:=Tryz.isAgg255
 z41:=Tryz.sizeOf255
 v41:=Tryz.zeroValue255
 t44:=Tryz.underlying258
 a44:=Tryz.isAgg258
 z44:=Tryz.sizeOf258
 v44:=Tryz.zeroValue258
 t46:=Tryz.underlying81
 a46:=Tryz.isAgg81
 z46:=Tryz.sizeOf81
 v46:=Tryz.zeroValue81
 t53:=Tryz.underlying294
 a53:=Tryz.isAgg294
 z53:=Tryz.sizeOf294
 v53:=Tryz.zeroValue294
 t57:=Tryz.underlying298
 a57:=Tryz.isAgg298
 z57:=Tryz.sizeOf298
 v57:=Tryz.zeroValue298
 t63:=Tryz.underlying332
 a63:=Tryz.isAgg332
 z63:=Tryz.sizeOf332
 v63:=Tryz.zeroValue332
 t64:=Tryz.underlying333
 a64:=Tryz.isAgg333
 z64:=Tryz.sizeOf333
 v64:=Tryz.zeroValue333}
def Tryz.m5:Go.Shelf.Ren:=⟨fun|5=>105|7=>70|n=>n,fun|23=>176|25=>3|3=>4|4=>4|20=>20|n=>n,fun|n=>n⟩
theorem Tryz.tH:Go.Proofs.SlLaysW.n5 Tryz.prog Tryz.m5:={
 mixed:=by kernel_rfl
 f5:=⟨Tryz.f105.name,by decide,Tryz.func105.trans (congrArg some (by kernel_rfl))⟩
 f7:=Tryz.func70.trans (congrArg some (by kernel_rfl))
 t4:=Tryz.underlying4
 a4:=Tryz.isAgg4
 z4:=Tryz.sizeOf4
 v4:=Tryz.zeroValue4
 t20:=Tryz.underlying20
 a20:=Tryz.isAgg20
 z20:=Tryz.sizeOf20
 v20:=Tryz.zeroValue20
 t23:=Tryz.underlying176
 a23:=Tryz.isAgg176
 z23:=Tryz.sizeOf176
 v23:=Tryz.zeroValue176}
end Go.Proofs
namespace Go.Bu
open Go Go.Vc Go.Proofs Go.RowKit Go.Maps Go.Sort Go.Shelf
variable {U:Hp}
def nu (B:Nat)(h:Hp)(s:Sl)(xs:List Value):Prop:=
 s.len=xs.length/\(xs=[]/\s.a=none\/∃b cs,B<=b/\s.a=some ⟨b,0,none⟩/\bY h b cs/\∀j,j<xs.length->cs[j]?=xs[j]?)
theorem nu.bV {B:Nat}{h h':Hp}{s:Sl}{xs:List Value}{F:Nat->Prop}(hs:nu B h s xs)(e:Ext F h h')(hF:∀b,F b->b<B):nu B h' s xs:=by
 refine⟨hs.1,hs.2.imp id ?_⟩;rintro⟨b,cs,hb,ha,hk,hc⟩;exact⟨b,cs,hb,ha,e.bX hk (λa=>by have:=hF b a;omega),hc⟩
theorem nu.mono {B B':Nat}{h:Hp}{s:Sl}{xs:List Value}(hs:nu B h s xs)(hB:B'<=B):nu B' h s xs:=by
 refine⟨hs.1,hs.2.imp id ?_⟩;rintro⟨b,cs,hb,ha,hk,hc⟩;exact⟨b,cs,O,ha,hk,hc⟩
theorem nu.nK {B:Nat}{h:Hp}{s:Sl}{xs:List Int}(hs:nu B h s (xs.map (Value.int .i64))){i:Nat}{x:Int}(hx:xs[i]?=some x){K:Int->Prop}(hK:K x) :
 Ix s.a s.len (i:Int) 1 λa=>gO .i64 a h K:=by
 have d:i<xs.length:=(cV.1 hx).1;rcases hs.2 with⟨h0,_⟩|⟨b,cs,_,ha,hb,hc⟩
 ·simp at h0;subst h0;simp at d
 ·rw[ha];refine ix O (by rw[hs.1];simp;omega) ?_;rw[add_lit];refine nL ?_ hK;rw[hb.cell];have:=hc i (by simpa using d);simpa[hx]using this
theorem G9 {w w':World}(h:Below w.heap.size w w'):aG w.heap w'.heap:=⟨h.size,λb a _=>h.block b a⟩
theorem CE {n:Nat}{w w':World}(h:Below n w w'):ZT w w':=⟨h.os,h.tape,h.output,h.size⟩
def uv:Nat:=Tryz.iR.f 10
def JX:Nat:=Tryz.iR.t 23
theorem Rx (m:Option Nat){R:Fv->Hp->Prop}(hR:R ⟨uv,#[],#[.pointer (some ⟨U.size,0,none⟩)]⟩ (U.push (.cells #[.map m] JX (0,0)))) :
 QJ.c m U R:=by
 rintro w rfl;refine(callsIn_wide.1 (AnyZI.keys_in Tryz.nT Fence.wide 5 trivial rfl m w)).mono ?_;rintro e a ⟨rfl,rfl⟩;exact⟨⟨rfl,rfl,rfl,oT (by show _<(w.heap.push _).size;simp)⟩,[.func (.func uv) #[] #[.pointer (some ⟨w.heap.size,0,none⟩)]],rfl,⟨uv,#[],#[.pointer (some ⟨w.heap.size,0,none⟩)]⟩,rfl,hR⟩
def kG (x:Int):Prop:=-9223372036854775808<=x/\x<=9223372036854775807
theorem HP {P:Program}{kt:Nat}(hk:P.underlying kt=some (.int .i64)){w:World}{m:Nat}{c:CK}{B:List (Int×c.T)}(h:dD w.heap m .i64 c B)(hb:∀x∈B,kG x.1)(hs:B.length<=1000000) :
 ∃D:DataW Unit,w.ownsMap P kt (λ_=>some (.nil,[])) m B.length D/\(intKeys D).Perm (B.map (·.1))/\Maps.size D=B.length:=by
 obtain⟨d,z,L,u,J,hp,E⟩:=h;have j:d.size=B.length:=by simpa using congrArg List.length u
 have i:∀e∈d.toList,∃x:Int,e.key=.int .i64 x/\kG x:=by
  intro e hme;have:(e.key,e.val)∈d.toList.map (λe=>(e.key,e.val)):=Af hme;rw[u]at this;obtain⟨y,H,e2⟩:=zD.1 this;simp only[Prod.mk.injEq]at e2;exact⟨y.1,e2.1.symm,hb y H⟩
 have wf:∀x:Int,kG x->(Lit.int .i64 x).wf=true:=by
  rintro x ⟨s,M⟩;simp[Lit.wf,IntKind.min,IntKind.max,IntKind.bits,IntKind.signed];omega
 have r:∀e∈d.toList,∃x:Int,e.key=.int .i64 x/\Go.WideElems.rd P kt (λ_=>some ((.nil:DataW Unit),[])) e=some (.int .i64 x,.nil):=by
  intro e hme;obtain⟨x,g,G⟩:=i e hme;refine⟨x,g,?_⟩;simp[Go.WideElems.rd,keyOf,hk,g,mapKey,wf x G]
 refine⟨.map ((d.toList.map (Go.WideElems.rg P kt (λ_=>some (.nil,[])))).foldr DataW.insert []),⟨d,z,L,⟨?_,⟨λx g=>E x g,?_,?_⟩,λx g=>?_⟩,O,rfl⟩,?_,?_⟩
 ·have:1000000<=maxLen:=by unfold maxLen;omega
  omega
 ·exact hp.imp (λh=>vG h)
 ·have C:d.toList.map (·.key)=(B.map (·.1)).map (Value.int .i64):=by
   have:=congrArg (List.map Prod.fst) u;simpa[mC,Function.comp_def]using this
  rw[C];exact List.Pairwise.map _ (λa b (A:a≠b) F=>A (by simpa using F)) J
 ·obtain⟨N,_,s⟩:=r x g;exact⟨_,s⟩
 ·simp only[intKeys];refine((Go.WideShapes.sorted_perm _).map _).trans ?_;rw[mC];have:d.toList.map ((λp=>Go.intOf p.1)∘Go.WideElems.rg P kt (λ_=>some ((.nil:DataW Unit),[])))=B.map (·.1):=by
   have C:d.toList.map (·.key)=(B.map (·.1)).map (Value.int .i64):=by
    have:=congrArg (List.map Prod.fst) u;simpa[mC,Function.comp_def]using this
   have K:d.toList.map ((λp=>Go.intOf p.1)∘Go.WideElems.rg P kt (λ_=>some ((.nil:DataW Unit),[])))=(d.toList.map (·.key)).map (λv=>match v with | .int _ x=>x|_=>0):=by
    rw[mC];apply k5;intro e hme;obtain⟨x,g,s⟩:=r e hme;simp[Function.comp,Go.WideElems.rg,s,g,Go.intOf]
   rw[K,C,mC]
   conv=>rhs;rw[←wE (B.map (·.1))]
   rfl
  rw[this]
 ·simp only[Maps.size];rw[(Go.WideShapes.sorted_perm _).length_eq];simp[j]
theorem Db {w:World}{B e n:Nat}{v:Value}{xs:List Value}(h:w.ownsRow B e 1 v n xs):∃s:Sl,v=.slice s.a s.len s.cap/\nu B w.heap s xs:=by
 obtain⟨b,h⟩:=h;rcases h with⟨rfl,rfl⟩|⟨g,cap,cur,rfl,hb,hg,_,_,hcs,ht⟩
 ·exact⟨⟨none,0,0⟩,rfl,by simp at b;simp[b],.inl ⟨by simpa using b,rfl⟩⟩
 ·refine⟨⟨some ⟨g,0,none⟩,n,cap⟩,rfl,by simp at b;simp[b],.inr ⟨g,cur.toList,hb,rfl,⟨e,by simpa using hg⟩,λj d=>?_⟩⟩;rw[←ht,zY,zB O]
theorem Wkc {w:World}{c m:Nat}{B:List (Int×Bool)}(hc:cell w.heap ⟨c,0,none⟩=some (.map (some m)))(hm:dD w.heap m .i64 .b B)(hb:∀x∈B,kG x.1)(hs:B.length<=1000000)(n:Nat)(hn:1<=n) :
 SeqGives Fence.wide n Tryz.prog uv #[.pointer (some ⟨c,0,none⟩)] encZ (λss=>ss.Perm (B.map (·.1))) B.length w:=by
 obtain⟨D,d,hp,ir⟩:=HP (P:=Tryz.prog) Tryz.nT.t26 hm hb hs;have a:c<w.heap.size:=by
  unfold cell at hc;split at hc
  ·rename_i h;exact(lY.1 h).1
  ·cases hc
 have:=AnyZI.keys_gives (ρ:=Tryz.iR) {Tryz.nT with} Fence.wide n trivial rfl hn c m B.length D w a hc d;intro l J W hW hJ hY h0;rw[ir]at this;refine(this l J W hW hJ hY h0).mono ?_;rintro e W' ⟨g,ss,i,j⟩;exact⟨g,ss,i.trans hp,j⟩
theorem IJ (m:Nat):AnyZI.SortsIn Tryz.prog Tryz.j0 Fence.wide m:=
 ⟨λbX b cap d W e a ir=>callsIn_wide.2 (AnyM.slices_Sort_int Tryz.qi bX b cap d W e a ir),
  λp cap W=>callsIn_wide.2 (AnyM.slices_Sort_int_none Tryz.qi p cap W)⟩
theorem LX {c m:Nat}{B:List (Int×Bool)}(hc:cell U ⟨c,0,none⟩=some (.map (some m)))(hm:dD U m .i64 .b B)(hb:∀x∈B,kG x.1)(hs:B.length<=1000000){R:Sl->Hp->Prop}
 (hR:∀(s:Sl) (σ':Hp) (ss:List Int),aG U σ'->ss.Perm (B.map (·.1))->nu U.size σ' s (ss.map (Value.int .i64))->R s σ') :
 VU.c ⟨uv,#[],#[.pointer (some ⟨c,0,none⟩)]⟩ U R:=by
 rintro w rfl;have i:=Wkc hc hm hb hs 3 O;have p:B.length<=maxLen:=by unfold maxLen;omega
 have u:=AnyZI.collect_in Tryz.wX Fence.wide 5 trivial trivial rfl O uv #[.pointer (some ⟨c,0,none⟩)] trivial (Tryz.nT.f10.enters rfl) _ _ p O _ i;refine(callsIn_wide.1 u).mono ?_;rintro e y ⟨v,ss,rfl,hp,d,r,g⟩;obtain⟨s,rfl,j⟩:=Db d;exact⟨CE g,[.slice s.a s.len s.cap],rfl,s,rfl,hR s _ ss (G9 g) hp j⟩
theorem ι {m:Nat}{B:List (Int×Bool)}(hm:dD U m .i64 .b B){R:Option Nat->Hp->Prop}
 (hR:∀σ',σ'.size=U.size+1->aG U σ'->dD σ' U.size .i64 .b B->R (some U.size) σ'):QE.c (some m) U R:=by
 rintro w rfl;obtain⟨g,d,i,a⟩:=hm;refine(AnyW.maps_Clone Tryz.tH m g d w i).mono ?_;rintro e j ⟨rfl,rfl⟩;refine⟨⟨rfl,rfl,rfl,oT (by show _<(w.heap.push _).size;simp)⟩,[.map (some w.heap.size)],rfl,some w.heap.size,rfl,hR _ (by show(w.heap.push _).size=_;simp) (Ext.push _ _ _) ⟨g,d,?_,a⟩⟩;show(w.heap.push _)[_]?=_;simp
end Go.Bu
namespace Go.Bu
open Go Go.Vc Go.Proofs
variable {U:Hp}{p n sb:Nat}{S:Nat->Bool}{ms:List Nat}
theorem ς {B:Nat}{s:Sl}{xs:List Int}(hs:nu B U s (xs.map (Value.int .i64)))(hl:xs.length<1000000000){m:Int}(hm:m∈xs)(hle:∀y∈xs,m<=y){R:aN}(hR:R m U):X8.c s U R:=by
 refine X8.o ?_;unfold X8.v;have x:s.len=xs.length:=by simpa using hs.1
 have g:0<xs.length:=List.length_pos_of_mem hm;refine Jn.intro (dR O ?_);have u:xs[0]?=some xs[0]:=by simp[g]
 refine hs.nK (i:=0) u ?_;refine Vu (a:=bN) (bb:=bN) (λ(c t:Int) w=>∃k:Nat,t=(k:Int)/\k<=xs.length/\w=U/\c∈xs/\∀(j:Nat) (y:Int),j<k->xs[j]?=some y->c<=y) (λ_ t _=>xs.length-t.toNat)
  ⟨1,rfl,O,rfl,zb _,λj y p d=>?_⟩ ?_
 ·have:j=0:=by omega
  subst this;rw[u]at d;cases d;omega
 rintro c t w ⟨k,rfl,G,rfl,z,b⟩;refine cL (λF=>?_) (λC=>?_)
 ·have r:k<xs.length:=by omega
  have A:xs[k]?=some xs[k]:=by simp[r]
  refine hs.nK A (cC (m:=k+1) O O ⟨⟨k+1,rfl,O,rfl,?_,λj y p d=>?_⟩,O⟩)
  ·split
   ·exact zb _
   ·exact z
  ·by_cases e:j=k
   ·subst e;rw[A]at d;cases d;split<;>omega
   ·have:=b j y O d;split<;>omega
 ·have:k=xs.length:=by omega
  subst this;obtain⟨j,p,e⟩:=uL hm;have D:=b j m p (by simp[p,e]);have E:=hle c z;have:c=m:=Int.le_antisymm D E;rw[this];exact hR
def KX (n:Nat)(S:Nat->Bool)(k:Nat):List Nat:=((List.range n).filter (can S k)).map (· * 2^k)
theorem M4 (hb:Bounded S n){k q:Nat}(hc:can S k q=true):q<n:=by
 have:=Z5 hb (ZW.1 hc).1;have a:=lj k;have b:q<=q*2^k:=Nat.le_mul_of_pos_right _ a;omega
theorem Kf (hb:Bounded S n){k x:Nat}:x∈KX n S k↔∃q,x=q*2^k/\can S k q=true:=by
 simp only[KX,zD,zH,ze];constructor
 ·rintro⟨q,⟨_,hc⟩,rfl⟩;exact⟨q,rfl,hc⟩
 ·rintro⟨q,rfl,hc⟩;exact⟨q,⟨M4 hb hc,hc⟩,rfl⟩
theorem Gx (n:Nat)(S:Nat->Bool)(k:Nat):(KX n S k).Pairwise (· < ·):=by
 unfold KX;refine List.Pairwise.map _ (λa b h=>Nat.mul_lt_mul_of_pos_right h (lj k)) ?_;exact List.Pairwise.sublist rR List.pairwise_lt_range
theorem GJ (n:Nat)(S:Nat->Bool)(k:Nat):(KX n S k).length=many n S k:=by
 simp[KX,many,Ai]
theorem Α {k:Nat}{B:List (Int×Bool)}(hK:Keys S k B)(hn:(B.map (·.1)).Nodup)(hb:Bounded S n):(B.map (·.1)).Perm ((KX n S k).map λ(x:Nat)=>(x:Int)):=by
 rw[xP hn]
 ·intro x;simp only[zD];constructor
  ·rintro⟨⟨x1,x2⟩,hm,rfl⟩;obtain⟨_,q,i,d⟩:=hK.1 x1 x2 hm;exact⟨_,(Kf hb).2 ⟨q,rfl,d⟩,i.symm⟩
  ·rintro⟨y,hy,rfl⟩;obtain⟨q,rfl,d⟩:=(Kf hb).1 hy;exact⟨_,hK.2 q d,rfl⟩
 ·refine List.Pairwise.map _ (λa b (g:a<b)=>?_) (Gx n S k);intro e;have:a=b:=by exact_mod_cast e
  omega
theorem M7 {k:Nat}{B:List (Int×Bool)}(hK:Keys S k B)(hb:Bounded S n)(hn:n<=1024):∀x∈B,kG x.1:=by
 rintro⟨x,v⟩ hx;obtain⟨_,q,rfl,a⟩:=hK.1 x v hx;have:=Z5 hb (ZW.1 a).1;have:=lj k;constructor<;>simp only<;>omega
theorem Pw (h:BH U p n S sb ms){k:Nat}(hk:ms.length<=k):KX n S k=[]:=by
 rw[List.eq_nil_iff_forall_not_mem];intro x hx;obtain⟨q,_,a⟩:=(Kf h.jU).1 hx;have:=h.fits (Z5 h.jU (ZW.1 a).1);omega
theorem L9 {h:Hp}{v:Value}{e:Nat}:cell (h.push (.cells #[v] e (0,0))) ⟨h.size,0,none⟩=some v:=by simp[cell]
theorem UF (h:Hp)(o:Obj):aG h (h.push o):=Ext.push _ _ _
def fZ (a:Int):Bool:=(List.range 11).any λk=>a==((2^k:Nat):Int)
theorem Γ:(List.range 1025).all (λa=>a==0||((a &&& (a-1))==0)==((List.range 11).any λk=>a==2^k))=true:=by decide +kernel
theorem CD {a:Nat}(h1:1<=a)(h2:a<=1024):((a &&& (a-1))==0)=((List.range 11).any λk=>a==2^k):=by
 have:=kK.1 Γ a (ze.2 O);simp only[mQ,za]at this;rcases this with h|h
 ·omega
 ·exact h
theorem Bc (a:Nat):fZ (a:Int)=((List.range 11).any λk=>a==2^k):=by
 unfold fZ
 congr 1
 funext k
 rw[nP];simp only[za];exact⟨λh=>by exact_mod_cast h,λh=>by exact_mod_cast h⟩
def fU (bK align:Int):Bool:=decide (1<=bK)&&(decide (bK<=1024)&&(decide (1<=align)&&(decide (align<=1024)&&fZ align)))
def Z0 (n:Nat)(S:Nat->Bool)(bK align:Nat):Nat->Option Nat
 | 0=>none
 | k+1=>match Z0 n S bK align k with
  | some x=>some x
  | none=>if bK<=2^k/\align<=2^k then(KX n S k).head? else none
def Zx (n:Nat)(S:Nat->Bool)(bK align:Nat):Option Nat:=Z0 n S bK align 11
def jl (n:Nat)(S:Nat->Bool)(bK align:Int):Int:=if fU bK align then(match Zx n S bK.toNat align.toNat with|some _=>0|none=>6)else 1
def jm (n:Nat)(S:Nat->Bool)(bK align:Int):Nat:=if fU bK align then(match Zx n S bK.toNat align.toNat with|some x=>x|none=>0)else 0
def jF (n:Nat)(S:Nat->Bool)(bK align:Int):Nat->Bool:=if fU bK align then(match Zx n S bK.toNat align.toNat with|some x=>take S x (x+bK.toNat)|none=>S)else S
theorem Rl {n:Nat}{S:Nat->Bool}{m a k x:Nat}(h:Z0 n S m a k=some x):∀j,k<=j->Z0 n S m a j=some x:=by
 intro j hj
 induction j with
 | zero=>
  have:k=0:=by omega
  subst this;exact h
 | succ j ih=>
  by_cases e:k=j+1
  ·subst e;exact h
  ·simp only[Z0,ih O]
theorem PD (h:BH U p n S sb ms){m a:Nat}(hn:Z0 n S m a ms.length=none):∀j,ms.length<=j->Z0 n S m a j=none:=by
 intro j hj
 induction j with
 | zero=>
  have:ms.length=0:=by omega
  rw[this]at hn;exact hn
 | succ j ih=>
  by_cases e:ms.length=j+1
  ·rw[←e];exact hn
  ·simp only[Z0,ih O,Pw h (show ms.length<=j by omega)];simp
theorem Oq {k:Nat}(hpos:0<many n S k):∃x rest,KX n S k=x::rest:=by
 rw[←GJ]at hpos
 match h:KX n S k with
 | []=>rw[h]at hpos;simp at hpos
 | x::r=>exact⟨x,r,rfl⟩
theorem lD (h:BH U p n S sb ms)(bK align:Int){R:Int->Int->Hp->Prop}
 (hR:∀σ',Ext (· ∈ ms) U σ'->BH σ' p n (jF n S bK align) sb ms->R ((jm n S bK align:Nat):Int) (jl n S bK align) σ'):XS.c (aW p) bK align U R:=by
 refine XS.o ?_;unfold XS.v;have hn2:=h.n2;have hl:=h.len;have G:fU bK align=false->R 0 1 U:=λe=>by
  have:=hR U (Ext.refl _ _);simp only[jF,jm,jl,e,zc,j4]at this;exact this h
 have d:¬(1<=bK/\bK<=1024/\1<=align/\align<=1024)->R 0 1 U:=λhn=>G (by
  simp only[fU,←Bool.and_assoc,←uF];rw[zJ];rfl;omega)
 refine yk h (bZ rfl (bW.intro ?_));refine cL (λh1=>bW.intro (cJ rfl (bW.intro (cJ rfl (bW.intro (cJ rfl (cJ rfl (d O)))))))) λh1=>?_;refine bW.intro (cL (λh2=>bW.intro (cJ rfl (bW.intro (cJ rfl (cJ rfl (d O)))))) λh2=>?_);refine bW.intro (cL (λW=>bW.intro (cJ rfl (cJ rfl (d O)))) λW=>?_);refine bW.intro (cL (λh4=>cJ rfl (d O)) λh4=>?_);obtain⟨a,rfl⟩:=zf (show 0<=align by omega);obtain⟨m,rfl⟩:=zf (show 0<=bK by omega);refine cC (m:=a-1) O O ?_;rw[jC O O];have M:((((a &&& (a-1):Nat):Int)) != 0) = !fZ (a:Int):=by
  rw[Bc,←CD O O];simp only[bne,Bool.not_inj_iff];rw[nP];simp only[za];omega
 rw[M];cases hp:fZ (a:Int)
 ·refine cJ rfl (G ?_);simp[fU,hp]
 refine bZ rfl ?_;have H:fU (m:Int) (a:Int)=true:=by
  simp only[fU,hp,ub,zF,zU];omega
 refine bO (h.rB λcap=>?_);refine Zw (a:=bN) (λt F=>∃k:Nat,t=(k:Int)/\k<=ms.length/\F=U/\Z0 n S m a k=none) (λt _=>ms.length-t.toNat) ⟨0,rfl,O,rfl,rfl⟩ ?_;rintro t F ⟨k,rfl,hk,rfl,r⟩;refine cL (λZ=>?_) (λX=>?_)
 ·simp only at Z;obtain⟨mm,hm⟩:=h.get (k:=k) O;refine h.rM hm (mO O (bW.intro ?_));have next:Z0 n S m a (k+1)=none->Ar .i64 ((k:Int)+1) λL=>(∃k:Nat,L=(k:Int)/\k<=ms.length/\F=F/\Z0 n S m a k=none)/\ms.length-L.toNat<ms.length-(k:Int).toNat:=
   λK=>cC (m:=k+1) O O ⟨⟨k+1,rfl,O,rfl,K⟩,O⟩
  refine cL (λN=>?_) (λhsm=>bZ rfl (next ?_))
  ·have j:m<=2^k/\a<=2^k:=by
    have:((if(a:Int)>(m:Int)then(a:Int)else(m:Int))<=((2^k:Nat):Int)):=N
    split at this<;>omega
   refine h.ly hm ?_;refine cL (λhpos=>?_) (λhz=>next ?_)
   ·have D:0<many n S k:=by omega
    obtain⟨x,rest,P⟩:=Oq D;obtain⟨q,rfl,hc⟩:=(Kf h.jU (k:=k) (x:=x)).1 (by rw[P];simp);have E:Zx n S m a=some (q*2^k):=by
     refine Rl (k:=k+1) ?_ 11 O;simp only[Z0,r,zB j,P,List.head?_cons]
    have hfb:=Z5 h.jU (ZW.1 hc).1;obtain⟨B,Y,w⟩:=h.maps k mm hm;have g:=Ff w Y.nodup h.jU;have hle:B.length<=1024:=by
     rw[g];have:=List.countP_le_length (p:=can S k) (l:=List.range n);simp only[many,rm]at *;omega
    refine Rx _ ?_;have e1:=UF F (.cells #[.map (some mm)] JX (0,0));refine LX L9 (e1.fC Y id) (M7 w h.jU h.n2) O λs σ' ss e2 hp Q=>?_;have C:=hp.trans (Α w Y.nodup h.jU);have u:=C.length_eq;simp only[zi]at u;rw[GJ,←g]at u;refine ς Q O (m:=((q*2^k:Nat):Int)) (C.mem_iff.2 (by rw[P];simp)) (λy hy=>?_) ?_
    ·have A:=C.mem_iff.1 hy;have b:=Gx n S k;rw[P]at A b;simp only[zX,zW,zD]at A;rcases A with rfl|⟨z,hz,rfl⟩
     ·omega
     ·have:=(nB.1 b).1 z hz;omega
    ·have V:=(h.aF e1).aF e2;refine Fg V O (λy hy1 hy2=>Uw hc (Qv.2 O)) λW e3 aa=>?_;have:=hR W ((e1.to.trans e2.to).trans e3);simp only[jF,jm,jl,H,dE,E,zT]at this;exact this aa
   ·simp only[Z0,r,zB j];have:KX n S k=[]:=BA (by rw[GJ];omega);rw[this];rfl
  ·have J:¬(m<=2^k/\a<=2^k):=by
    have:¬((if(a:Int)>(m:Int)then(a:Int)else(m:Int))<=((2^k:Nat):Int)):=hsm
    split at this<;>omega
   simp only[Z0,r,zA J]
 ·simp only at X;have:k=ms.length:=by omega
  subst this;have E:Zx n S m a=none:=PD h r 11 O;have:=hR F (Ext.refl _ _);simp only[jF,jm,jl,H,dE,E,zT]at this;exact this h
end Go.Bu
namespace Go.Ar
open Go.Bu
structure AR where
 n:Nat
 room:Nat
 tb:List cD
 S:Nat->Bool
 st:List Nat
 ow:Nat->Nat
 cI:List (List cM)
 cF:List gg
 runs:List (Nat×Nat)
def AR.ck (A:AR)(k:Int):Bool:=decide (0<=k)&&decide (k<(A.tb.length:Int))
def UH (A:AR)(r:Nat×Nat):AR:={A with ow:=ju A.ow r.1 r.2 0,st:=Uu A.st r.1 r.2 2 [1],S:=Q8 A.n A.S r.1 r.2}
def Us (A:AR)(rs:List (Nat×Nat)):AR:=rs.foldl UH A
def dB (sp:Sp)(size:Nat):Option Nat:=((List.range (sp.st.length/size)).map (· * size)).find? λs=>s != 0&&fH sp s size==0
def Hu (st:List Nat)(a m:Nat):List Nat:=((List.range m).map (a + ·)).foldl (λl (h:Nat)=>jo l h) st
def Ht (A:AR)(sp:Sp)(size:Nat):Option (AR×Sp):=match dB sp size with
 | none=>none
 | some s=>some ({A with st:=Hu A.st (s/16) (size/16),S:=Q8 A.n A.S s size},gL sp s size)
def Kw (m:Nat):Nat:=if m<=16 then 16 else if m<=32 then 32 else 64
def dU (A:AR)(x bK no:Nat):AR:={A with S:=take A.S x (x+bK),st:=Uu A.st x bK 1 [2,3],ow:=ju A.ow x bK no}
def dC (A:AR)(sp:Sp)(bK align no:Nat):Option Nat×AR×Sp:=match Zx A.n A.S bK align with
 | some x=>(some x,dU A x bK no,sp)
 | none=>match Ht A sp (Kw (max bK align))with
  | none=>(none,A,sp)
  | some (A',sp')=>match Zx A'.n A'.S bK align with
   | some x=>(some x,dU A' x bK no,sp')
   | none=>(none,A',sp')
def Qq (A:AR)(k:Int):Int:=if A.ck k then(match A.cF[k.toNat]? with
 | some t=>if t.bs=[]then 4 else 0
 | none=>5)else 1
def YQ (A:AR)(k:Int):List Int:=if Qq A k=0 then(match A.cF[k.toNat]? with
 | some t=>t.bs.getLast?.getD []
 | none=>[])else[]
def ZV (A:AR)(k:Int):AR:=if Qq A k=0 then{A with cF:=A.cF.modify k.toNat gg.rem}else A
def Gs (A:AR)(k:Int)(xs:List Int):Int:=if A.ck k then(match A.tb[k.toNat]?,A.cI[k.toNat]? with
 | some c,some ss=>if xs.length=c.batch then(if xs.all (λx=>eD c ss x==some true)then 0 else 8)else 1
 | _,_=>5)else 1
def VM (A:AR)(k:Int)(xs:List Int):Bool:=decide (Gs A k xs=0)&&(match A.cF[k.toNat]? with
 | some t=>decide (t.bs.length<A.room)
 | none=>false)
def KC (A:AR)(k:Int)(xs:List Int):AR:=if VM A k xs then{A with cF:=A.cF.modify k.toNat λt=>{t with bs:=t.bs++[xs]}}else A
def Q3 (A:AR)(k m:Int):Int:=if A.ck k then(if m<0 then 1 else 0)else 1
def V8 (A:AR)(k m:Int):List Nat×List cM:=match A.tb[k.toNat]?,A.cI[k.toNat]? with
 | some c,some ss=>KF c m.toNat ss
 | _,_=>([],[])
def Yy (A:AR)(k m:Int):List Nat:=if Q3 A k m=0 then(V8 A k m).1 else[]
def YU (A:AR)(k m:Int):AR:=if Q3 A k m=0 then{A with cI:=A.cI.set k.toNat (V8 A k m).2}else A
def Km (A:AR)(k:Int)(xs:List Int):Int:=if A.ck k then(match A.tb[k.toNat]?,A.cI[k.toNat]? with
 | some c,some ss=>iU c ss xs
 | _,_=>5)else 1
def Zh (A:AR)(k:Int)(xs:List Int):AR:=if Km A k xs=0 then(match A.tb[k.toNat]?,A.cI[k.toNat]? with
 | some c,some ss=>Us {A with cI:=A.cI.set k.toNat (cO (xs.foldl (fL c) ss))} ((Qp (xs.foldl (fL c) ss)).map λs=>(s,c.bK))
 | _,_=>A)else A
def Vr (A:AR)(sp:Sp)(k:Int):Int:=if A.ck k then(match A.tb[k.toNat]?,A.cI[k.toNat]? with
 | some c,some ss=>(match (dC A sp c.bK 1 (k.toNat+1)).1 with
  | some x=>oY c ss x
  | none=>6)
 | _,_=>5)else 1
def cR (A:AR)(sp:Sp)(k:Int):AR×Sp:=if A.ck k then(match A.tb[k.toNat]?,A.cI[k.toNat]? with
 | some c,some ss=>(match dC A sp c.bK 1 (k.toNat+1)with
  | (some x,A',sp')=>(if oY c ss x=0 then{A' with cI:=A'.cI.set k.toNat (iD c ss x)}else A',sp')
  | (none,A',sp')=>(A',sp'))
 | _,_=>(A,sp))else(A,sp)
def KO (m a:Int):Bool:=decide (1<=m)&&(decide (m<=64)&&(a==1||(a==2||(a==4||(a==8||a==16)))))
def QS (A:AR)(sp:Sp)(m a:Int):Int:=if KO m a then(if(dC A sp m.toNat a.toNat 41).1.isSome then 0 else 6)else 1
def Qo (A:AR)(sp:Sp)(m a:Int):Nat:=if KO m a then(dC A sp m.toNat a.toNat 41).1.getD 0 else 0
def cE (A:AR)(sp:Sp)(m a:Int):AR×Sp:=if KO m a then(match dC A sp m.toNat a.toNat 41 with
 | (some x,A',sp')=>({A' with runs:=mset2 A'.runs x m.toNat},sp')
 | (none,A',sp')=>(A',sp'))else(A,sp)
where mset2 (l:List (Nat×Nat)) (x m:Nat):List (Nat×Nat):=if l.any (λr=>r.1==x)then l.map (λr=>if r.1==x then(x,m)else r)else l++[(x,m)]
def qE (A:AR)(x:Int):Option (Nat×Nat):=A.runs.find? λr=>(r.1:Int)==x
def Vy (A:AR)(x:Int):Int:=if(qE A x).isSome then 0 else 8
def Q5 (A:AR)(x:Int):AR:=match qE A x with
 | some r=>UH {A with runs:=A.runs.filter λq=>!((q.1:Int)==x)} r
 | none=>A
def sC (A:AR)(p:Nat):Option (Nat×Nat):=A.runs.find? λr=>decide (r.1<=p)&&decide (p<r.1+r.2)
def Ux (A:AR)(x:Int):Option (Int×Nat):=if x<0 then none else
 let p:=x.toNat/256
 let no:=if p<1024 then A.ow p else 0
 if no=0 then none else if no=41 then(sC A p).map λr=>(-1,r.1*256)else
 match A.tb[no-1]?,A.cI[no-1]? with
 | some c,some ss=>(rk c ss x).map λa=>(((no-1:Nat):Int),a)
 | _,_=>none
def xh (A:AR)(x:Int):Bool:=match Ux A x with
 | some (k,a)=>if(a:Int)=x then(if k<0 then true else(match A.tb[k.toNat]?,A.cI[k.toNat]? with
  | some c,some ss=>eD c ss x==some true
  | _,_=>false))else false
 | none=>false
def pA (A:AR)(p:Int):Bool:=decide (0<=p)&&decide (A.st.getD p.toNat 0≠0)
def Q9 (A:AR)(k:Nat):AR:=match A.tb[k]?,A.cI[k]? with
 | some c,some ss=>Us {A with cI:=A.cI.set k (cO ss)} ((Qp ss).map λs=>(s,c.bK))
 | _,_=>A
def YP (A:AR):AR:=(List.range A.tb.length).foldl Q9 A
def fK (p:AR×Sp)(r:Nat×Nat):AR×Sp:=({p.1 with st:=Uu p.1.st r.1 r.2 3 [2]},dX p.2 r.1 r.2 1)
def UB (A:AR)(want:Int):List (Nat×Nat):=Gf (YP A).st want
def dV (A:AR)(sp:Sp)(want:Int):AR×Sp:=if want<0 then(A,sp)else(UB A want).foldl fK (YP A,sp)
def kx (A:AR)(want:Int):Nat:=if want<0 then 0 else((UB A want).map (·.2)).sum
def VN (p:AR×Sp)(h:Nat):AR×Sp:=({p.1 with st:=jK p.1.st h,S:=j6 p.1.n p.1.S ((h*16:Nat):Int) 16},dX p.2 ((h*16:Nat):Int) 16 0)
def eH (A:AR)(sp:Sp):AR×Sp:=(KQ A.st 0).foldl VN (A,sp)
def ur (A:AR):Nat:=(KQ A.st 0).length
def Vf (A:AR)(k:Nat):AR:=match A.cF[k]? with
 | some t=>t.out.foldl (λA' xs=>Zh A' k xs) {A with cF:=A.cF.set k t.tick}
 | none=>A
def HF (A:AR):AR:=(List.range A.cF.length).foldl Vf A
end Go.Ar
namespace Go.Ar
open Go.Vc (cB dO dK)
inductive Ph where
 | take (k:Nat)
 | cN (k w:Nat)
 | cP (k w:Nat)
 | grow (k w:Nat)
 | fill
 | eN (m:Nat)
 | find (x:Int)
 | put (k:Nat) (x:Int)
 | back
 | dG (s a:Int)
 | drain
 deriving DecidableEq
structure Th where
 ls:List Li
 bP:List Bt
 ph:Option Ph
structure Cf where
 bK:Nat
 gS:Nat
 threads:Nat
 cT:Nat
 room:Nat
abbrev Bk:=Int×Int×Int×Int
structure Hw where
 tb:List cD
 cf:Cf
 sp:Sp
 bT:List AR
 bQ:List Th
 live:List (Int×Bk)
def Ye (bT:List AR)(x:Int):Int:=if x<0 then -1 else match bT.findIdx? (λA=>pA A (x/256))with
 | some i=>(i:Int)
 | none=>-1
def Hw.own (H:Hw)(t:Nat):Nat:=t%H.bT.length
def Hw.eC (H:Hw)(t:Nat)(f:Th->Th):Hw:={H with bQ:=H.bQ.modify t f}
def Hw.cG (H:Hw)(k:Nat)(A:AR):Hw:={H with bT:=H.bT.set k A}
def Ub (H:Hw)(x size cls:Int):Hw:={H with live:=dO H.live x (x,size,cls,Ye H.bT x)}
def Kl (H:Hw)(t k:Nat)(xs:List Int):Hw:=H.eC t λh=>{h with bP:=h.bP++[(k,xs)]}
def kj (H:Hw)(t:Nat):Option Ph:=match H.bQ[t]? with
 | some h=>if h.bP=[]then none else some .back
 | none=>none
def Z4 (bT:List AR)(xs:List Int)(a:Nat):List Int:=xs.filter λx=>Ye bT x==(a:Int)
def VG (H:Hw)(k:Nat)(part:Nat->List Int)(l:List Nat):Hw:=l.foldl (λH a=>match H.bT[a]? with
 | some A=>if part a=[]then H else H.cG a (Zh A (k:Int) (part a))
 | none=>H) H
def G7 (H:Hw)(own k:Nat)(xs:List Int):Hw:=match H.bT[own]? with
 | some A=>if(Z4 H.bT xs own).length=xs.length/\VM A (k:Int) xs=true then H.cG own (KC A (k:Int) xs)
  else VG (if(Z4 H.bT xs own).length=xs.length then H.cG own (KC A (k:Int) xs)else H) k (Z4 H.bT xs) (List.range H.bT.length)
 | none=>H
abbrev tv:=Hw×Option Ph×Int×Int
def mA (H:Hw)(x:Int):Int:=if 0<=Ye H.bT x then(match H.bT[(Ye H.bT x).toNat]? with
 | some A=>(match Ux A x with
  | some (k,y)=>if 0<=k/\(y:Int)=x then 9 else 8
  | none=>8)
 | none=>8)else 8
def HL (H:Hw)(t:Nat)(x:Int):tv:=match cB H.live x with
 | none=>(H,none,0,mA H x)
 | some b=>if b.2.2.1<0 then({H with live:=dK H.live x},some (.dG (x/256) b.2.2.2),0,0)
  else(Kl {H with live:=dK H.live x} t b.2.2.1.toNat [x],some (.put b.2.2.1.toNat x),0,0)
def Hw.kr (H:Hw)(t:Nat):Th:=H.bQ.getD t ⟨[],[],none⟩
def Hw.cls (H:Hw)(k:Nat):cD:=H.tb.getD k ⟨8,1,1⟩
def Hw.eI (H:Hw)(t:Nat):AR:=H.bT.getD (H.own t) ⟨0,0,[],λ_=>false,[],λ_=>0,[],[],[]⟩
def Th.li (h:Th)(k:Nat):Li:=h.ls.getD k il
def Th.iP (h:Th)(k:Nat)(l:Li):Th:={h with ls:=h.ls.set k l}
def iJ (H:Hw)(t k:Nat)(x:Int):Hw:=
 let c:=H.cls k
 let l:=(H.kr t).li k
 let H1:=H.eC t λh=>h.iP k (dM c x l).2
 let H2:=if(dM c x l).1=[]then H1 else Kl H1 t k (dM c x l).1
 let H3:=H2.eC t λh=>{h with bP:=h.bP.drop 1}
 if H.cf.cT<KA H.tb (H3.kr t).ls then H3.eC t λh=>{h with ls:=KE Vp H.tb h.ls,bP:=h.bP++KI Vp H.tb h.ls}else H3
def Wv (H:Hw)(t:Nat):Ph->tv
 | .take k=>match KJ (H.cls k) ((H.kr t).li k)with
  | (some x,l)=>(Ub (H.eC t λh=>h.iP k l) x ((H.cls k).size:Int) (k:Int),none,x,0)
  | (none,l)=>(H.eC t λh=>h.iP k l,some (.cN k (qd (H.cls k) l)),0,0)
 | .cN k w=>if w=(H.cls k).batch then(if Qq (H.eI t) (k:Int)=0 then(Kl (H.cG (H.own t) (ZV (H.eI t) (k:Int))) t k (YQ (H.eI t) (k:Int)),some .fill,0,0)else(H,some (.cP k w),0,0))else(H,some (.cP k w),0,0)
 | .cP k w=>
  let H1:=H.cG (H.own t) (YU (H.eI t) (k:Int) (w:Int))
  if Yy (H.eI t) (k:Int) (w:Int)=[]then(H1,some (.grow k w),0,0)else(Kl H1 t k ((Yy (H.eI t) (k:Int) (w:Int)).map λ(x:Nat)=>(x:Int)),some .fill,0,0)
 | .grow k w=>
  let r:=cR (H.eI t) H.sp (k:Int)
  let H1:={H.cG (H.own t) r.1 with sp:=r.2}
  if Vr (H.eI t) H.sp (k:Int)=0 then(H1,some (.cP k w),0,0)else(H1,none,0,Vr (H.eI t) H.sp (k:Int))
 | .fill=>match (H.kr t).bP with
  | (k,x::xs)::_=>(Ub (H.eC t λh=>{ls:=h.ls.set k (eM xs.reverse (h.li k)),bP:=[],ph:=h.ph}) x ((H.cls k).size:Int) (k:Int),none,x,0)
  | _=>(H,none,0,0)
 | .eN m=>
  let r:=cE (H.eI t) H.sp (m:Int) 1
  let H1:={H.cG (H.own t) r.1 with sp:=r.2}
  let x:Int:=((Qo (H.eI t) H.sp (m:Int) 1*256:Nat):Int)
  if QS (H.eI t) H.sp (m:Int) 1=0 then(Ub H1 x ((m*256:Nat):Int) (-1),none,x,0)else(H1,none,0,QS (H.eI t) H.sp (m:Int) 1)
 | .find x=>HL H t x
 | .put k x=>(iJ H t k x,kj (iJ H t k x) t,0,0)
 | .back=>match (H.kr t).bP with
  | (k,xs)::r=>
   let H1:=G7 (H.eC t λh=>{h with bP:=r}) (H.own t) k xs
   (H1,kj H1 t,0,0)
  | []=>(H,none,0,0)
 | .dG s a=>(match H.bT[a.toNat]? with
  | some A=>H.cG a.toNat (Q5 A s)
  | none=>H,none,0,0)
 | .drain=>
  let H1:=H.eC t λh=>{h with ls:=KE Z6 H.tb h.ls,bP:=KI Z6 H.tb h.ls}
  (H1,kj H1 t,0,0)
end Go.Ar
namespace Go.Proofs
open Go.Vc
set_option maxRecDepth 100000
def Z7.h:Hn:=.q .o4 (.q (.k (.q .o4 (.c .aL (.q (.cW (.gM true [] [(13,.one .b)] (.tk [0,1,2] (.split 16 (.tk [3,4,5,6,7,8,9,10,11,12,13,14,15,16] (.done)) (.tk [3,4,5,6] (.split 20 (.tk [7,8,9,10,11,12,13,14,15,16] (.done)) (.tk [7,8,9,10] (.split 24 (.tk [11,12,13,14,15,16] (.done)) (.take 11 (.take 13 (.all [(12,.take 14 (.take 15 (.take 16 (.done))))]))))))))))) .aJ)))) (.q .o4 (.q (.q .o2 .aJ) (.q .o3 .l))))
def Z7.v (a:Sl)(b c:Int)(d:Hp)(e:Int->Int->Hp->Prop):Prop:=aV #[.I b] 3 d λf g=>aV #[.I c] 3 g λh i=>ZU.c a i λj k=>If (!j) (e 0 2 k) (Jn [.b] (λ(l:Bool) m=>If l (e 0 1 m) (Wn.c a ⟨97,#[],#[.pointer (some f),.pointer (some h)]⟩ m λn o=>If (n<0) (e 0 4 o) (e n 0 o))) λp=>dP k λq=>fR q bN f λ(r:Int)=>If (r<1) (p true k) (fR q bN h λ(s:Int)=>If (s<1) (p true k) (fR q bN h λ(t:Int)=>If (t>256) (p true k) (fR q bN h λ(u:Int)=>fR q bN h λ(v:Int)=>Qz.c u k λw x=>And (q x) <| p (w != v) x))))
theorem Z7.o {a b c d e}(f:Z7.v a b c d e):Z7.c a b c d e:=Wa Tryz.func59 (x:=Z7.h) (R0 f)
def ZU.h:Hn:=.q .o1 (.q (.q (.cW (.seq [.op,.op,.op,.op,.cY false 3 (RI.ops 3)])) .aK) (.q (.q .o3 (.k (.loop [(15,.I)] (.q .o1 (.q (.c .l .l) (.q (.k (.q .o6 (.q (.cW (.gM true [1] [(37,.one .b)] (.take 0 (.all [(1,.take 2 (.take 3 (.split 23 (.take 4 (.take 5 (.take 6 (.take 7 (.take 8 (.take 9 (.take 10 (.take 11 (.take 12 (.take 13 (.take 14 (.take 15 (.take 16 (.take 17 (.done))))))))))))))) (.take 4 (.take 5 (.take 6 (.split 26 (.take 7 (.take 9 (.take 10 (.take 11 (.take 12 (.take 13 (.all [(8,.all [(14,.take 15 (.take 16 (.take 17 (.done))))]),(14,.all [(8,.take 15 (.take 16 (.take 17 (.done))))])]))))))) (.take 7 (.take 8 (.take 9 (.take 10 (.take 11 (.take 12 (.take 13 (.take 14 (.take 15 (.take 16 (.take 17 (.done)))))))))))))))))))])))) .aK))) .o2)))))) .aM))
def ZU.v (a:Sl)(b:Hp)(c:aO):Prop:=bW (λd e=>If d (c false e) (WU [bN] (λf=>f 0 e) λg (h:Int) i=>If (h<((a.len:Nat):Int)) (Ix a.a a.len h 3 λj=>aQ j 0 i λk=>aQ j 1 i λl=>aQ j 2 i λm=>aV #[.I 0,.I 0,.I 0] 85 i λn o=>aR n 0 (.I k) o λp=>aR n 1 (.I l) p λq=>aR n 2 (.I m) q λr=>Jn [.b] (λ(s:Bool) t=>If s (c false t) (bL (h+1) λu=>g u t)) λv=>dP r λw=>aS w n 0 λx=>aS w n 1 λy=>aS w n 2 λz=>Q7.c x y z r λaa ab=>If (!aa) (v true ab) (If (h>0) (bL (h-1) λac=>Ix a.a a.len ac 3 λad=>(aQ n 0 ab λae=>aQ ad 0 ab λaf=>v (decide (ae<=af)) ab) ∧ (aQ ad 0 ab λag=>aQ n 0 ab λah=>v (decide (ah<=ag)) ab)) (v false ab))) (c true i))) λai=>If (((a.len:Nat):Int)<1) (ai true b) (ai (decide (((a.len:Nat):Int)>40)) b)
theorem ZU.o {a b c}(d:ZU.v a b c):ZU.c a b c:=Wa Tryz.func84 (x:=ZU.h) (R0 d)
def Qz.h:Hn:=.q .o1 (.q .o1 (.q (.q .o1 (.k (.loop [(3,.I),(4,.I)] (.q (.q .o3 (.c .l .l)) (.q (.k .o2) .o3))))) .aL))
def Qz.v (a:Int)(b:Hp)(c:aN):Prop:=WU [bN,bN] (λd=>d 0 1 b) λe (f:Int) (g:Int) h=>If (g<=a) (bL (g*2) λi=>e g i h) (c f h)
theorem Qz.o {a b c}(d:Qz.v a b c):Qz.c a b c:=Wa Tryz.func95 (x:=Qz.h) (R0 d)
def Z9.h:Hn:=.q .o2 (.q (.cW (.seq [.op,.op,.op,.op,.op,.cY true 5 (RI.ops 5),.op])) .l)
def Z9.v (a b c:Int)(d e:Addr)(f:Hp)(g:aO):Prop:=aV #[.I a,.I b,.I c] 85 f λh i=>aQ h 0 i λj=>bM d i λk=>bW (λl m=>g l m) λn=>If (j≥k) (aQ h 0 i λo=>bM e i λp=>Nz p <| n ((o.tmod p)==0) i) (n false i)
theorem Z9.o {a b c d e f g}(h:Z9.v a b c d e f g):Z9.c a b c d e f g:=Wa Tryz.func97 (x:=Z9.h) (R0 h)
def Q7.h:Hn:=.q .o2 (.q (.cW (.seq [.op,.op,.op,.op,.cY true 3 (RI.ops 3),.op,.cY true 4 (RI.ops 4),.op,.cY true 3 (RI.ops 3),.op,.cY true 3 (RI.ops 3),.op,.cY true 6 (RI.ops 6),.op,.cY true 3 (RI.ops 3),.op,.cY true 3 (RI.ops 3),.op])) .l)
def Q7.v (a b c:Int)(d:Hp)(e:aO):Prop:=aV #[.I a,.I b,.I c] 85 d λf g=>aQ f 0 g λh=>bW (λi j=>bW (λk l=>bW (λm n=>bW (λo p=>bW (λq r=>bW (λs t=>bW (λu v=>e u v) λw=>If s (aQ f 2 t λx=>w (decide (x<=32)) t) (w false t)) λy=>If q (aQ f 2 r λz=>y (decide (z≥1)) r) (y false r)) λaa=>If o (aQ f 1 p λab=>bL (ab*256) λac=>aQ f 0 p λad=>aa (decide (ac≥ad)) p) (aa false p)) λae=>If m (aQ f 1 n λaf=>ae (decide (af<=4)) n) (ae false n)) λag=>If k (aQ f 1 l λah=>ag (decide (ah≥1)) l) (ag false l)) λai=>If i (aQ f 0 j λaj=>Nz 8 <| ai ((aj.tmod 8)==0) j) (ai false j)) λak=>If (h≥8) (aQ f 0 g λal=>ak (decide (al<=512)) g) (ak false g)
theorem Q7.o {a b c d e}(f:Q7.v a b c d e):Q7.c a b c d e:=Wa Tryz.func115 (x:=Q7.h) (R0 f)
def ZL.h:Hn:=.q .o3 (.q (.q .o3 .aJ) (.q .o4 .l))
def ZL.v (a b c:Int)(d:Hp)(e:Int->Int->Hp->Prop):Prop:=aV #[.I a,.I b,.I c] 85 d λf g=>aQ f 0 g λh=>aQ f 1 g λi=>aQ f 2 g λj=>Q7.c h i j g λk l=>If (!k) (e 0 1 l) (aQ f 0 l λm=>aQ f 1 l λn=>aQ f 2 l λo=>ZY.c m n o l λp q=>e p 0 q)
theorem ZL.o {a b c d e}(f:ZL.v a b c d e):ZL.c a b c d e:=Wa Tryz.func169 (x:=ZL.h) (R0 f)
def ZY.h:Hn:=.q .o2 (.q .o7 .l)
def ZY.v (a b c:Int)(d:Hp)(e:aN):Prop:=aV #[.I a,.I b,.I c] 85 d λf g=>aQ f 1 g λh=>bL (h*256) λi=>aQ f 0 g λj=>Nz j<|bL (i.tdiv j) λk=>e k g
theorem ZY.o {a b c d e}(f:ZY.v a b c d e):ZY.c a b c d e:=Wa Tryz.func219 (x:=ZY.h) (R0 f)
end Go.Proofs
namespace Go.Ar
open Go Go.Vc Go.Proofs
variable {U:Hp}
theorem J9 (x y z:Int){R:aO}(hR:∀σ',aG U σ'->R (U3 x y z) σ'):Q7.c x y z U R:=by
 refine Q7.o ?_;unfold Q7.v;refine nw (cs:=[.int .i64 x,.int .i64 y,.int .i64 z]) λh A e b=>?_;have j:U3 x y z=false->R false h:=λd=>d▸hR h e;have a:¬(8<=x/\x<=512/\x%8=0/\1<=y/\y<=4/\x<=y*256/\1<=z/\z<=32)->R false h:=λd=>j (by rw[←pY,UQ];exact d);refine b.rI rfl (bW.intro ?_);refine cL (λs=>b.rI rfl (bW.intro ?_)) λs=>?_
 case refine_2=>
  iterate 6 refine bW.intro (bZ rfl ?_)
  exact a O
 refine cL (λu=>b.rI rfl (nz aB (bW.intro ?_))) λu=>?_
 case refine_2=>
  iterate 5 refine bW.intro (bZ rfl ?_)
  exact a O
 rw[QY O];refine cU (λg=>b.rI rfl (bW.intro ?_)) λg=>?_
 case refine_2=>
  have:¬x%8=0:=by simpa using g
  iterate 4 refine bW.intro (bZ rfl ?_)
  exact a O
 have i:x%8=0:=by simpa using g
 refine cL (λm=>b.rI rfl (bW.intro ?_)) λm=>?_
 case refine_2=>
  iterate 3 refine bW.intro (bZ rfl ?_)
  exact a O
 refine cL (λp=>b.rI rfl (ar O O (b.rI rfl (bW.intro ?_)))) λp=>?_
 case refine_2=>
  iterate 2 refine bW.intro (bZ rfl ?_)
  exact a O
 refine cL (λr=>b.rI rfl (bW.intro ?_)) λr=>?_
 case refine_2=>exact bW.intro (bZ rfl (a O))
 refine cL (λw=>b.rI rfl ?_) λw=>a O;have:decide (z<=32)=U3 x y z:=by
  rw[nP,UQ];simp;omega
 rw[this];exact hR h e
theorem RS {c:cD}(hc:c.ok){R:aN}(hR:∀σ',aG U σ'->R (c.n:Int) σ'):ZY.c c.size c.bK c.batch U R:=by
 refine ZY.o ?_;unfold ZY.v;have h:=hc;unfold cD.ok at h;refine nw (cs:=[.int .i64 c.size,.int .i64 c.bK,.int .i64 c.batch]) λh b e a=>?_;refine a.rI rfl (cC (m:=c.bK*256) aA O (a.rI rfl (nz O ?_)));refine cC (m:=c.n) ?_ (by have:=hc.kA;omega) (hR _ e);rw[Xq O];simp[cD.n]
theorem Ie (x y z:Int){R:Int->Int->Hp->Prop}(h1:∀c:cD,c.ok->x=c.size->y=c.bK->z=c.batch->∀σ',aG U σ'->R (c.n:Int) 0 σ')(h0:U3 x y z=false->∀σ',aG U σ'->R 0 1 σ'):ZL.c x y z U R:=by
 refine ZL.o ?_;unfold ZL.v;refine nw (cs:=[.int .i64 x,.int .i64 y,.int .i64 z]) λh i e b=>?_;refine b.rI rfl (b.rI rfl (b.rI rfl (J9 _ _ _ λj e2=>?_)));have a:=e2.bX b id;cases hk:U3 x y z
 ·exact cJ rfl (h0 hk _ (e.trans e2))
 ·obtain⟨c,d,_,rfl,rfl,rfl⟩:=yr hk;exact bZ rfl (a.rI rfl (a.rI rfl (a.rI rfl (RS d λm g=>h1 c d rfl rfl rfl _ ((e.trans e2).trans g)))))
end Go.Ar
namespace Go.Proofs
open Go.Vc
set_option maxRecDepth 100000
def W4.h:Hn:=.q .o1 (.q (.q .o3 .aK) (.q .o8 .l))
def W4.v (a:R2)(b:Hp)(c:Option Addr->Hp->Prop):Prop:=WN.c a b λd e=>If (!d) (c none e) (bE a 0 e λg=>Wk.c g e λh i=>aV #[.slice h.a h.len h.cap] 179 i λj k=>c (some j) k)
theorem W4.o {a b c}(d:W4.v a b c):W4.c a b c:=Wa Tryz.func74 (x:=W4.h) (R0 d)
def WN.h:Hn:=.q .o1 (.q (.cW (.seq [.op,.op,.op,.cY true 6 (RI.ops 6),.op])) .l)
def WN.v (a:R2)(b:Hp)(c:aO):Prop:=bW (λd e=>c d e) λf=>If (!a.isNone) (bE a 0 b λh=>f (decide (((h.len:Nat):Int)>0)) b) (f false b)
theorem WN.o {a b c}(d:WN.v a b c):WN.c a b c:=Wa Tryz.func106 (x:=WN.h) (R0 d)
def Vh.h:Hn:=.q .o2 (.q (.q (.cW (.seq [.op,.op,.op,.cY false 2 [.op,.op],.op,.cY false 3 (RI.ops 3)])) .aJ) (.q .o6 .l))
def Vh.v (a:Int)(b:Hp)(c:Option Addr->Int->Hp->Prop):Prop:=bW (λd e=>bW (λf g=>If f (c none 1 g) (Mk a a 8 3 [.I 0] g λh i=>aV #[.slice h.a h.len h.cap] 179 i λj k=>c (some j) 0 k)) λl=>If d (l true e) (Nz 16 <| l ((a.tmod 16) != 0) e)) λm=>If (a<16) (m true b) (m (decide (a>1024)) b)
theorem Vh.o {a b c}(d:Vh.v a b c):Vh.c a b c:=Wa Tryz.func117 (x:=Vh.h) (R0 d)
def YK.h:Hn:=.q .o3 (.scope (.q (.k (.q .o4 (.c .aL (.q .o3 .aJ)))) (.q .o1 (.q (.q .o3 (.k (.loop [(6,.one .s),(23,.I)] (.q .o1 (.q (.c .l .l) (.q (.k (.q .o2 (.q .o5 (.c .o5 .l)))) .o2)))))) (.q .o3 (.q .o1 (.q .o1 (.q .l (.q (.q .o3 (.k (.loop [(8,.one .s),(9,.I),(41,.I)] (.q .o1 (.q (.c .l .l) (.q (.k (.q .o3 (.q .o1 (.k (.loop [(8,.one .s),(9,.I),(12,.I)] (.q (.q .o2 (.c .l .l)) (.q (.k (.q (.q .o3 (.c .l .l)) (.q .o1 (.q (.k (.loop [(13,.I)] (.q (.q (.cW (.seq [.op,.op,.op,.op,.op,.cY true 9 (RI.ops 9)])) (.c .l .l)) (.k .o3)))) (.q .o2 (.c (.q .gE (.q .o4 .o4)) .l)))))) .o3))))))) .o2)))))) (.q .o3 .l))))))))))
def YK.v (a:R2)(b:Int)(c:Hp)(d:Sl->Int->Hp->Prop):Prop:=aV #[.pointer a] 129 c λe f=>fW e f λg=>WN.c g f λh i=>If (!h) (d ⟨none,0,0⟩ 5 i) (If (b<0) (d ⟨none,0,0⟩ 1 i) (fW e i λj=>XN.c j i λk l=>WU [.s,bN] (λm=>m ⟨none,0,0⟩ 0 l) λn (o:Sl) (p:Int) q=>If (p<k) (fW e q λr=>Xk.c r p q λs t=>ZO.c s 2 t λu v=>If (u>0) (aV #[.I p] 3 v λw x=>App o 1 8 3 [.I 0] ⟨some w,1,1⟩ x λy z=>bL (p+1) λaa=>n y aa z) (bL (p+1) λab=>n o ab v)) (WO.c o ⟨194,#[],#[.pointer (some e)]⟩ q λac=>WU [.s,bN,bN] (λad=>ad ⟨none,0,0⟩ 0 0 ac) λae (af:Sl) (ag:Int) (ah:Int) ai=>If (ah<((o.len:Nat):Int)) (Ix o.a o.len ah 1 λaj=>bM aj ai λak=>WU [.s,bN,bN] (λal=>al af ag 0 ai) λam (an:Sl) (ao:Int) (ap:Int) aq=>If (ap<16) (If (ao≥b) (d an 0 aq) (WU [bN] (λar=>ar 0 aq) λau (av:Int) aw=>bL (ap+av) λax=>bW (λay az=>If ay (bL (av+1) λa0=>au a0 az) (If (av>0) (bL (ak*16) λa1=>bL (a1+ap) λa2=>aV #[.I a2,.I av] 246 az λa3 a4=>App an 2 16 246 [.I 0,.I 0] ⟨some a3,1,1⟩ a4 λa5 a6=>bL (ao+av) λa7=>bL (ap+av) λa8=>bL (a8+1) λa9=>am a5 a7 a9 a6) (bL (ap+1) λba=>am an ao ba az))) λbb=>If (ax<16) (fW e aw λbc=>Xk.c bc ak aw λbd be=>bL (ap+av) λbf=>Ix bd.a bd.len bf 1 λbg=>bM bg be λbh=>bb (bh==2) be) (bb false aw))) (bL (ah+1) λbi=>ae an ao bi aq)) (d af 0 ai))))
theorem YK.o {a b c d}(e:YK.v a b c d):YK.c a b c d:=Wa Tryz.func141 (x:=YK.h) (R0 e)
def Xd.h:Hn:=.q .o1 (.q .o6 .l)
def Xd.v (a:R2)(b c:Int)(d:Hp)(e:aN):Prop:=aV #[.I 2] 3 d λf g=>Xv.c a b c 3 ⟨some f,1,1⟩ g λh i=>e h i
theorem Xd.o {a b c d e}(f:Xd.v a b c d e):Xd.c a b c d e:=Wa Tryz.func142 (x:=Xd.h) (R0 f)
def YL.h:Hn:=.q .o1 (.q .o3 .l)
def YL.v (a:R2)(b:Hp)(c:Sl->Hp->Prop):Prop:=X6.c a 0 b λd e=>c d e
theorem YL.o {a b c}(d:YL.v a b c):YL.c a b c:=Wa Tryz.func144 (x:=YL.h) (R0 d)
def Xj.h:Hn:=.q .o1 (.q .o8 (.q (.k (.q .o3 (.c .aL (.q .o4 .aK)))) (.q .o2 .aM)))
def Xj.v (a:R2)(b:Int)(c:Hp)(d:aN):Prop:=XY.c a b c λe f g=>If (f != 0) (d f g) (Ks.c e g λh i=>If (!h) (d 5 i) (QI.c e 0 i λj=>d 0 j))
theorem Xj.o {a b c d}(e:Xj.v a b c d):Xj.c a b c d:=Wa Tryz.func145 (x:=Xj.h) (R0 e)
def Xz.h:Hn:=.q .o1 (.q .o6 .l)
def Xz.v (a:R2)(b c:Int)(d:Hp)(e:aN):Prop:=aV #[.I 1] 3 d λf g=>Xv.c a b c 2 ⟨some f,1,1⟩ g λh i=>e h i
theorem Xz.o {a b c d e}(f:Xz.v a b c d e):Xz.c a b c d e:=Wa Tryz.func185 (x:=Xz.h) (R0 f)
def XN.h:Hn:=.q .o1 (.q .o7 .l)
def XN.v (a:R2)(b:Hp)(c:aN):Prop:=bE a 0 b λe=>Nz 16<|bL (((e.len:Nat):Int).tdiv 16) λf=>c f b
theorem XN.o {a b c}(d:XN.v a b c):XN.c a b c:=Wa Tryz.func190 (x:=XN.h) (R0 d)
def ZO.h:Hn:=.q .o1 (.q .o1 (.q (.q .o3 (.k (.loop [(5,.I),(10,.I)] (.q .o1 (.q (.c .l .l) (.q (.k (.q .o3 (.q .o3 (.c .o3 .l)))) .o2)))))) .aL))
def ZO.v (a:Sl)(b:Int)(c:Hp)(d:aN):Prop:=WU [bN,bN] (λe=>e 0 0 c) λf (g:Int) (h:Int) i=>If (h<((a.len:Nat):Int)) (Ix a.a a.len h 1 λj=>bM j i λk=>If (k==b) (bL (g+1) λl=>bL (h+1) λm=>f l m i) (bL (h+1) λn=>f g n i)) (d g i)
theorem ZO.o {a b c d}(e:ZO.v a b c d):ZO.c a b c d:=Wa Tryz.func191 (x:=ZO.h) (R0 e)
def Xk.h:Hn:=.q .o1 (.q (.o 11) .l)
def Xk.v (a:R2)(b:Int)(c:Hp)(d:Sl->Hp->Prop):Prop:=bE a 0 c λf=>bL (b*16) λg=>bL (b+1) λh=>bL (h*16) λi=>fE f 1 g i (f.cap:Nat) λj=>d j c
theorem Xk.o {a b c d}(e:Xk.v a b c d):Xk.c a b c d:=Wa Tryz.func192 (x:=Xk.h) (R0 e)
def XJ.h:Hn:=.q .o1 (.q (.cW (.held true [] (.tk [0,1,3,4] (.all [(2,.all [(5,.take 6 (.take 7 (.done)))])])))) (.q (.q .o6 (.q .o2 .aJ)) (.q (.q .o6 (.q .o2 .aJ)) (.q .o4 .l))))
def XJ.v (a b:Int)(c:Addr)(d:Hp)(e:aN):Prop:=dP d λf=>fR f .p c λ(g:R2)=>fR f .p c λ(h:R2)=>Xk.c g a d λi j=>And (f j) <| Xk.c h b j λk l=>And (f l) <| QR.c i l λm n=>QR.c k n λo p=>bL (m-o) λq=>If (q != 0) (e q p) (ZO.c i 1 p λr s=>ZO.c k 1 s λt u=>bL (r-t) λv=>If (v != 0) (e v u) (bL (b-a) λw=>e w u))
theorem XJ.o {a b c d e}(f:XJ.v a b c d e):XJ.c a b c d e:=Wa Tryz.func194 (x:=XJ.h) (R0 f)
def QR.h:Hn:=.q .o1 (.q (.k (.q .o4 (.c .aM (.q .o4 .aK)))) .aM)
def QR.v (a:Sl)(b:Hp)(c:aN):Prop:=ZO.c a 1 b λd e=>If (d==0) (c 0 e) (ZO.c a 3 e λf g=>If (f>0) (c 1 g) (c 2 g))
theorem QR.o {a b c}(d:QR.v a b c):QR.c a b c:=Wa Tryz.func195 (x:=QR.h) (R0 d)
def Xv.h:Hn:=.q .o2 (.q (.k (.q .o4 (.c .aM (.q (.cW (.seq [.op,.op,.op,.cY false 2 [.op,.op],.op,.cY false 7 (RI.ops 7),.op,.cY false 9 (RI.ops 9),.op])) .aK)))) (.q .gE (.q (.q .o3 .aK) (.q .o3 .aM))))
def Xv.v (a:R2)(b c d:Int)(e:Sl)(f:Hp)(g:aN):Prop:=aV #[.slice e.a e.len e.cap] 27 f λh i=>WN.c a i λj k=>If (!j) (g 5 k) (bW (λl m=>bW (λn o=>bW (λp q=>If p (g 1 q) (bE a 0 q λs=>bL (b+c) λt=>fE s 1 b t (s.cap:Nat) λu=>Wy.c u ⟨239,#[],#[.pointer (some h)]⟩ q λv w=>If v (g 5 w) (QI.c u d w λx=>g 0 x))) λy=>If n (y true o) (bE a 0 o λaa=>bL (((aa.len:Nat):Int)-b) λab=>y (decide (c>ab)) o)) λac=>If l (ac true m) (bE a 0 m λae=>ac (decide (b>((ae.len:Nat):Int))) m)) λaf=>If (b<0) (af true k) (af (decide (c<1)) k))
theorem Xv.o {a b c d e f g}(h:Xv.v a b c d e f g):Xv.c a b c d e f g:=Wa Tryz.func196 (x:=Xv.h) (R0 h)
def X6.h:Hn:=.q .o1 (.q (.q .o3 .aK) (.q .o1 (.q (.q .o3 (.k (.loop [(5,.one .s),(13,.I)] (.q .o1 (.q (.c .l .l) (.q (.k (.q .o2 (.q .o4 (.q (.cW (.seq [.op,.op,.op,.op,.op,.cY true 4 (RI.ops 4)])) (.c .o5 .l))))) .o2)))))) .aL)))
def X6.v (a:R2)(b:Int)(c:Hp)(d:Sl->Hp->Prop):Prop:=WN.c a c λe f=>If (!e) (d ⟨none,0,0⟩ f) (XN.c a f λg h=>WU [.s,bN] (λi=>i ⟨none,0,0⟩ 0 h) λj (k:Sl) (l:Int) m=>If (l<g) (Xk.c a l m λn o=>Ix n.a n.len 0 1 λp=>bM p o λq=>bW (λr s=>If r (aV #[.I l] 3 s λt u=>App k 1 8 3 [.I 0] ⟨some t,1,1⟩ u λv w=>bL (l+1) λx=>j v x w) (bL (l+1) λy=>j k y s)) λz=>If (q != 0) (QR.c n o λaa ab=>z (aa==b) ab) (z false o)) (d k m))
theorem X6.o {a b c d}(e:X6.v a b c d):X6.c a b c d:=Wa Tryz.func198 (x:=X6.h) (R0 e)
def XY.h:Hn:=.q .o2 (.q (.k (.q .o4 (.c .aL (.q (.cW (.seq [.op,.op,.op,.cY false 4 (RI.ops 4),.op])) .aJ)))) (.q .o5 .l))
def XY.v (a:R2)(b:Int)(c:Hp)(d:Sl->Int->Hp->Prop):Prop:=WN.c a c λe f=>If (!e) (d ⟨none,0,0⟩ 5 f) (bW (λg h=>If g (d ⟨none,0,0⟩ 1 h) (Xk.c a b h λi j=>d i 0 j)) λk=>If (b<0) (k true f) (XN.c a f λl m=>k (decide (b≥l)) m))
theorem XY.o {a b c d}(e:XY.v a b c d):XY.c a b c d:=Wa Tryz.func199 (x:=XY.h) (R0 e)
def Ks.h:Hn:=.q .o1 (.q (.cW (.seq [.op,.op,.op,.op,.op,.cY true 3 (RI.ops 3),.op])) .l)
def Ks.v (a:Sl)(b:Hp)(c:aO):Prop:=Ix a.a a.len 0 1 λd=>bM d b λe=>bW (λf g=>c f g) λh=>If (e != 0) (ZO.c a 1 b λi j=>h (i==0) j) (h false b)
theorem Ks.o {a b c}(d:Ks.v a b c):Ks.c a b c:=Wa Tryz.func200 (x:=Ks.h) (R0 d)
def QI.h:Hn:=.q .o3 (.k (.loop [(7,.I)] (.q .o1 (.q (.c .l .l) (.q (.k (.q .o2 .o5)) .o2)))))
def QI.v (a:Sl)(b:Int)(c:Hp)(d:aP):Prop:=WU [bN] (λe=>e 0 c) λf (g:Int) h=>If (g<((a.len:Nat):Int)) (Ix a.a a.len g 1 λi=>eP i (.I b) h λj=>bL (g+1) λk=>f k j) (d h)
theorem QI.o {a b c d}(e:QI.v a b c d):QI.c a b c d:=Wa Tryz.func201 (x:=QI.h) (R0 e)
def Ya.h:Hn:=.q .o1 (.q (.q (.cW (.seq [.op,.op,.op,.op,.cY false 2 [.op,.op],.op,.cY false 7 (RI.ops 7)])) .aK) (.q .o8 .l))
def Ya.v (a:R2)(b:Int)(c:Hp)(d:aN):Prop:=WN.c a c λe f=>bW (λg h=>bW (λi j=>If i (d (-1) j) (bE a 0 j λl=>Ix l.a l.len b 1 λm=>bM m j λn=>d n j)) λo=>If g (o true h) (bE a 0 h λq=>o (decide (b≥((q.len:Nat):Int))) h)) λr=>If (!e) (r true f) (r (decide (b<0)) f)
theorem Ya.o {a b c d}(e:Ya.v a b c d):Ya.c a b c d:=Wa Tryz.func214 (x:=Ya.h) (R0 e)
def XL.h:Hn:=.q .o1 (.q .o6 .l)
def XL.v (a:R2)(b c:Int)(d:Hp)(e:aN):Prop:=aV #[.I 2,.I 3] 3 d λf g=>Xv.c a b c 1 ⟨some f,2,2⟩ g λh i=>e h i
theorem XL.o {a b c d e}(f:XL.v a b c d e):XL.c a b c d e:=Wa Tryz.func224 (x:=XL.h) (R0 f)
def YN.h:Hn:=.q .o1 (.q .o5 .l)
def YN.v (a:Int)(b:Addr)(c:Hp)(d:aO):Prop:=ji b c λe=>Wq.c e a c λf g=>d (!f) g
theorem YN.o {a b c d}(e:YN.v a b c d):YN.c a b c d:=Wa Tryz.func239 (x:=YN.h) (R0 e)
def Yw.h:Hn:=.q .o1 (.q .o8 (.q (.k (.q .o3 (.c .aL (.q .o5 .aK)))) (.q .o2 .aM)))
def Yw.v (a:R2)(b:Int)(c:Hp)(d:aN):Prop:=XY.c a b c λe f g=>If (f != 0) (d f g) (Ix e.a e.len 0 1 λh=>bM h g λi=>If (i != 0) (d 5 g) (QI.c e 3 g λj=>d 0 j))
theorem Yw.o {a b c d}(e:Yw.v a b c d):Yw.c a b c d:=Wa Tryz.func254 (x:=Yw.h) (R0 e)
end Go.Proofs