/- Texts joined. -/
import Derived.Deep.Slices
import Derived.Deep.Fields
import Derived.ChangeSame
import Derived.Lib.SmallJoins
import Derived.Below
import Derived.Test.YtoeidadjhkkioaaGreatDoorProg
import Derived.KernelRfl
import Derived.RangeFuncLeaves
import Derived.RangeFuncRecord
import Derived.RangeFuncSeq
import Derived.RangeFuncCalls
import Derived.OrdersIn
import Derived.TacticsIn
import Derived.RangeFuncIn
import Derived.Shelf.SlIterI.Nil
import Derived.Shelf.SortM.Plain
import Derived.Shelf.SortM.SortNone
import Derived.Ground.GgzProg
import Derived.Ground.SlgmProg
import Derived.Shelf.SlMaps.Clone
import Derived.Ground.SlmcProg
import Derived.Test.YtoeidadjhkkioaaGreatDoorU1
set_option linter.unusedVariables false
set_option linter.unusedSimpArgs false
namespace Go.Vc
open Go
abbrev Rg:=Nat->Prop
def dN (P:Hp->Rg->Prop):Prop:=∀U σ' (F G:Rg),P U F->U.size<=σ'.size->(∀b,b<U.size->F b->G b/\σ'[b]?=U[b]?)->P σ' G
def Grow (F:Rg)(U:Hp):Rg:=λb=>F b\/U.size<=b
theorem dN.mono {P:Hp->Rg->Prop}(hl:dN P){U:Hp}{F G:Rg}(h:P U F)(hs:∀b,b<U.size->F b->G b):P U G:=hl U U F G h (zD _) λb a d=>⟨hs b a d,rfl⟩
theorem dN.bS {P:Hp->Rg->Prop}(hl:dN P){U σ':Hp}{F T:Rg}(h:P U F)(e:Ext T U σ')(hn:∀b,b<U.size->F b->¬T b):P σ' F:=
 hl U σ' F F h e.1 λb a d=>⟨d,e.2 b a (hn b a d)⟩
theorem dN.bP {P:Hp->Rg->Prop}(hl:dN P){U σ':Hp}{F:Rg}(h:P U F)(e:aF U σ'):P σ' F:=hl.bS h e λ_ _ _=>id
def Sep {L:Type}(C:L->Hp->Rg->Prop)(U:Hp)(F:Rg):Prop:=∃ρ:Nat->L,∀i,C i U λb=>F b/\ρ b=i
variable {L:Type}{C:L->Hp->Rg->Prop}{U σ':Hp}{F:Rg}
theorem Sep.loc (hC:∀i,dN (C i)):dN (Sep C):=by
 rintro U m F G ⟨ρ,h⟩ j d;exact⟨ρ,λi=>hC i _ _ _ _ (h i) j λb g a=>⟨⟨(d b g a.1).1,a.2⟩,(d b g a.1).2⟩⟩
theorem Sep.get (h:Sep C U F)(i:L):∃G:Rg,(∀b,G b->F b)/\C i U G:=by
 obtain⟨ρ,h⟩:=h;exact⟨_,λb a=>a.1,h i⟩
open Classical in
theorem Sep.step (hC:∀i,dN (C i))(h:Sep C U F)(i:L):∃G:Rg,(∀b,G b->F b)/\C i U G/\∀(σ':Hp) (C':L->Hp->Rg->Prop) (G':Rg),
 (∀j,j≠i->C' j=C j)->Ext G U σ'->(∀b,G' b->G b\/U.size<=b)->C' i σ' G'->dN (C' i)->Sep C' σ' λb=>F b/\b<U.size/\¬G b\/G' b:=by
 obtain⟨ρ,h⟩:=h;refine⟨_,λb d=>d.1,h i,λσ' C' G' r e s hi u=>⟨λb=>if G' b then i else ρ b,λj=>?_⟩⟩
 by_cases hji:j=i
 ·subst hji;exact u.mono hi λb _ d=>⟨.inr d,zC d⟩
 ·rw[r j hji];refine hC j _ _ _ _ (h j) e.1 λb d p=>?_;have a:¬(F b/\ρ b=i):=λm=>hji (p.2.symm.trans m.2);have g:¬G' b:=λm=>by
   rcases s b m with h1|h1
   ·exact a h1
   ·omega
  exact⟨⟨.inl ⟨p.1,d,a⟩,(zB g).trans p.2⟩,e.2 b d a⟩
open Classical in
theorem Sep.oM (hC:∀i,dN (C i))(h:Sep C U F)(i j:L)(hij:i≠j):∃G H:Rg,(∀b,G b->F b)/\(∀b,H b->F b)/\(∀b,G b->¬H b)/\C i U G/\C j U H/\∀(σ':Hp) (C':L->Hp->Rg->Prop) (G' H':Rg),
 (∀k,k≠i->k≠j->C' k=C k)->Ext (λb=>G b\/H b) U σ'->(∀b,G' b->(G b\/H b)\/U.size<=b)->(∀b,H' b->(G b\/H b)\/U.size<=b)->(∀b,G' b->¬H' b)->C' i σ' G'->C' j σ' H'->(∀k,dN (C' k)) →
 Sep C' σ' λb=>F b/\b<U.size/\¬(G b\/H b)\/G' b\/H' b:=by
 obtain⟨ρ,h⟩:=h;refine⟨_,_,λb a=>a.1,λb a=>a.1,λb g z=>hij (g.2.symm.trans z.2),h i,h j,λσ' C' G' H' w e y x hd hi A u=>⟨λb=>if G' b then i else if H' b then j else ρ b,λk=>?_⟩⟩
 by_cases hki:k=i
 ·subst hki;exact(u _).mono hi λb _ a=>⟨.inr (.inl a),zC a⟩
 by_cases hkj:k=j
 ·subst hkj;exact(u _).mono A λb _ a=>⟨.inr (.inr a),by show(if G' b then i else if H' b then k else ρ b)=k;rw[zB λd=>hd b d a,zC a]⟩
 ·rw[w k hki hkj];refine hC k _ _ _ _ (h k) e.1 λb a s=>?_;have r:¬((F b/\ρ b=i)\/F b/\ρ b=j):=by
   rintro(d|d)
   ·exact hki (s.2.symm.trans d.2)
   ·exact hkj (s.2.symm.trans d.2)
  have p:¬G' b:=λd=>by
   rcases y b d with g|g
   ·exact r g
   ·omega
  have m:¬H' b:=λd=>by
   rcases x b d with g|g
   ·exact r g
   ·omega
  exact⟨⟨.inl ⟨s.1,a,r⟩,by show(if G' b then i else if H' b then j else ρ b)=k;rw[zB p,zB m];exact s.2⟩,e.2 b a r⟩
def iy (p:Nat)(cs:List Value):Hp->Rg->Prop:=λU F=>F p/\bY U p cs
theorem iy.loc (p:Nat)(cs:List Value):dN (iy p cs):=λU d F G h g a=>by
 obtain⟨e,b⟩:=h.2;have:=a p h.2.lt h.1;exact⟨this.1,e,this.2.trans b⟩
def jM (r:Nat)(k:IntKind)(c:CK)(l:List (Int×c.T)):Hp->Rg->Prop:=λU F=>F r/\dK U r k c l
theorem jM.loc (r:Nat)(k:IntKind)(c:CK)(l:List (Int×c.T)):dN (jM r k c l):=λU j F G h m g=>by
 have:=g r h.2.lt h.1;obtain⟨d,b,i,a⟩:=h.2;exact⟨this.1,d,b,this.2.trans i,a⟩
def A7:Hp->Rg->Prop:=λ_ _=>True
theorem A7.loc:dN A7:=λ_ _ _ _ _ _ _=>trivial
def xB (s:Sl)(sz:Nat)(xs:List Value):Hp->Rg->Prop:=λU F=>Own F U s sz xs
theorem xB.loc (s:Sl)(sz:Nat)(xs:List Value):dN (xB s sz xs):=λU g F G h d a=>by
 refine⟨h.1,h.2.imp id ?_⟩;rintro⟨b,cs,hq,ha,⟨e,he⟩,r⟩;have:=a b (bY.lt ⟨e,he⟩) hq;exact⟨b,cs,this.1,ha,⟨e,this.2.trans he⟩,r⟩
def bT (s:Sl)(sz:Nat)(xs:List Value):Hp->Rg->Prop:=λh F=>xs.length=s.len*sz/\(s.len=0/\s.cap=0\/∃b cs,F b/\s.a=some ⟨b,0,none⟩/\bY h b cs/\s.len<=s.cap/\cs.length=s.cap*sz/\cs.take xs.length=xs)
theorem bT.loc (s:Sl)(sz:Nat)(xs:List Value):dN (bT s sz xs):=λU g F G h d a=>by
 refine⟨h.1,h.2.imp id ?_⟩;rintro⟨b,cs,hq,ha,⟨e,he⟩,r⟩;have:=a b (bY.lt ⟨e,he⟩) hq;exact⟨b,cs,this.1,ha,⟨e,this.2.trans he⟩,r⟩
theorem _root_.aI{s n xs}:dN (bT s n xs):=bT.loc _ _ _
theorem bT.nil (h:Hp)(F:Rg)(sz:Nat)(a:Option Addr):bT ⟨a,0,0⟩ sz [] h F:=⟨by simp,.inl ⟨rfl,rfl⟩⟩
theorem bT.rd {h:Hp}{F:Rg}{s:Sl}{sz:Nat}{xs:List Value}(ho:bT s sz xs h F):Rd h s.a xs:=by
 rcases ho.2 with⟨hl,_⟩|⟨b,cs,_,ha,hb,_,_,ht⟩
 ·have:=ho.1;rw[hl]at this;simp at this;subst this;cases s.a<;>simp[Rd]
 ·rw[ha];intro j v hv;rw[add_lit,hb.cell,zH];rw[←ht,zm]at hv;split at hv
  ·exact hv
  ·cases hv
theorem bT.app {F:Rg}{h:Hp}{s x:Sl}{sz bytes e:Nat}{zs xs ys:List Value}{K:Sl->Hp->Prop}(ho:bT s sz xs h F)(hz:zs.length=sz)
 (hy:ys.length=x.len*sz) (hr:Rd h x.a ys) (h1:∀v∈ys,dV v=true) (hb:(s.len+x.len)*bytes<=2^46) (hc:s.len+x.len<=2^62)
 (hx:0<x.len) (hK:∀s' h',s'.len=s.len+x.len->Ext F h h'->bT s' sz (xs++ys) h' (Grow F h)->K s' h'):App s sz bytes e zs x h K:=by
 refine⟨xs,ys,ho.1,hy,ho.rd,hr,h1,hb,hc,λg=>?_,λp c i=>?_⟩
 ·rcases ho.2 with⟨hl,hcap⟩|⟨b,cs,hQ,ha,hk,hle,hcl,ht⟩
  ·omega
  ·rw[ha];simp only;rw[add_lit];have r:(s.len+x.len)*sz<=s.cap*sz:=mD _ g;rw[zp]at r;have d:=ho.1;refine V4 hk O λh' m j=>hK _ h' rfl (Ext.eU m hQ) ⟨?_,.inr ⟨b,_,.inl hQ,rfl,j,g,?_,?_⟩⟩
   ·simp[d,hy,zp]
   ·simp;omega
   ·rw[zK,d];rw[zH,kA,←d];rw[ht,qg aA,lI aA]
 ·refine hK _ _ rfl (Ext.push _ _ _) ⟨by simp[ho.1,hy,zp],.inr ⟨h.size,xs++ys++(List.replicate (c-(s.len+x.len)) zs).flatten,.inr (zD _),rfl,⟨e,by simp⟩,i,?_,?_⟩⟩
  ·simp only[zK,xm,vY,wQ,ho.1,hy,hz,←zp]
   congr 1;omega
  ·rw[qg aA,lI aA]
theorem bT.st {F:Rg}{h:Hp}{s:Sl}{sz:Nat}{xs:List Value}(ho:bT s sz xs h F){j:Nat}(hj:j<xs.length){v:Value}{K:aP}{a:Addr}(ha:∀b,s.a=some ⟨b,0,none⟩->a=⟨b,j,none⟩)
 (hK:∀h',Ext F h h'->bT s sz (xs.set j v) h' F->K h'):dQ a v h K:=by
 rcases ho.2 with⟨hl,_⟩|⟨b,cs,hq,hsa,hb,hle,hcl,ht⟩
 ·have:=ho.1;rw[hl]at this;simp at this;subst this;simp at hj
 ·rw[ha b hsa];have d:j<cs.length:=by
   have:(cs.take xs.length).length=xs.length:=by rw[ht]
   rw[zY]at this;omega
  refine⟨by rw[hb.cell,cW d];rfl,hb.oI,hK _ (Ext.j0 (F:=F) hq) ⟨by simp[ho.1],.inr ⟨b,_,hq,hsa,hb.set v,hle,by simp[hcl],?_⟩⟩⟩;rw[oW,List.take_set,ht]
def cV (s:Sl)(sz:Nat)(xs:List Value):Hp->Rg->Prop:=λU F=>xs.length=s.len*sz/\(xs=[]\/∃b o cs,F b/\s.a=some ⟨b,o,none⟩/\mN U b cs/\∀j,j<xs.length->cs[o+j]?=xs[j]?)
theorem cV.loc (s:Sl)(sz:Nat)(xs:List Value):dN (cV s sz xs):=λU g F G h d a=>by
 refine⟨h.1,h.2.imp id ?_⟩;rintro⟨b,o,cs,hq,ha,⟨e,z,he⟩,r⟩;have:=a b (mN.lt ⟨e,z,he⟩) hq;exact⟨b,o,cs,this.1,ha,⟨e,z,this.2.trans he⟩,r⟩
theorem _root_.aH{s n xs}:dN (cV s n xs):=cV.loc _ _ _
theorem bT.fW {Q:Rg}{h:Hp}{s:Sl}{sz:Nat}{xs:List Value}(ho:bT s sz xs h Q):cV s sz xs h Q:=by
 refine⟨ho.1,?_⟩;rcases ho.2 with⟨hl,_⟩|⟨b,cs,hq,ha,hb,_,_,ht⟩
 ·left;have:=ho.1;rw[hl]at this;simpa using this
 ·refine .inr ⟨b,0,cs,hq,ha,hb.q,λj a=>?_⟩;rw[←ht,zm,zH,zC a]
theorem cV.cell {s:Sl}{sz:Nat}{xs:List Value}(h:cV s sz xs U F){j:Nat}{v:Value}(hv:xs[j]?=some v):∃b o,s.a=some ⟨b,o,none⟩/\Vc.cell U ⟨b,o+j,none⟩=some v:=by
 have d:=(cY.1 hv).1;rcases h.2 with h0|⟨b,o,cs,_,ha,hb,hc⟩
 ·subst h0;simp at d
 ·exact⟨b,o,ha,by rw[hb.cell,hc j d];exact hv⟩
theorem cV.lL {s:Sl}{k:IntKind}{xs:List Int}(h:cV s 1 (xs.map (Value.int k)) U F){i:Nat}{x:Int}(hx:xs[i]?=some x){K:Int->Prop}(hK:K x):Ix s.a s.len (i:Int) 1 λa=>gI k a U K:=by
 have hi:=(cY.1 hx).1;obtain⟨b,o,m,d⟩:=h.cell (j:=i) (v:=.int k x) (by simp[hx]);have g:=h.1;simp at g;rw[m];refine ix O O ?_;rw[add_lit];exact oD (by simpa using d) hK
theorem cV.rd {s:Sl}{sz:Nat}{xs:List Value}(h:cV s sz xs U F):Rd U s.a xs:=by
 cases ha:s.a with
 | none=>
  rcases h.2 with h0|⟨b,o,cs,_,d,_⟩
  ·exact h0
  ·rw[ha]at d;cases d
 | some a=>
  intro j v hv;obtain⟨b,o,d,g⟩:=h.cell hv;rw[ha]at d;cases d;rw[add_lit];exact g
end Go.Vc
namespace Go.Vc
open Go Go.ChangeShapes Go.WideShapes Go.Deep Go.RowKit
def Mx (U:Hp):Bool->Hp->Prop:=λb σ'=>b=true/\aF U σ'
theorem NI {P:Program}{f:Nat}{args:Array Value}{w:World}(h:Wg P f args [.one .b] w.heap (Mx w.heap)):Calls P f args w λe w'=>e=.returned (.bool true)/\Below w.heap.size w w':=by
 refine(h w rfl).mono ?_;rintro e w' ⟨a,vs,rfl,g⟩
 match vs,g with
 | [v],g=>
  obtain⟨x,rfl,m,j⟩:=g;have d:x=true:=m;subst d;exact⟨rfl,⟨a.1,a.2.1,a.2.2.1,a.2.2.2,λk i=>j.2 k i id⟩⟩
def iu (h:Hp)(l:Sl)(xs:List (Int×Int×Int)):Prop:=l.len=xs.length/\∀i x y z,xs[i]?=some (x,y,z)->∃b o,l.a=some ⟨b,o,none⟩/\b<h.size ∧
 cell h ⟨b,o+i*3,none⟩=some (.int .i64 x)/\cell h ⟨b,o+i*3+1,none⟩=some (.int .i64 y)/\cell h ⟨b,o+i*3+2,none⟩=some (.int .i64 z)
theorem FJ {h:Hp}{a:Addr}{v:Value}(hc:cell h a=some v):a.block<h.size/\a.spot=none:=by
 unfold cell at hc;split at hc
 ·rename_i heq;refine⟨(kg.1 heq).1,?_⟩;cases hs:a.spot with
  | none=>rfl
  | some s=>rw[hs]at hc;simp at hc
 ·cases hc
end Go.Vc
namespace Go.Vc
open Go
theorem eB {k:IntKind}{b o i:Nat}{h:Hp}{x:Int}{K:Int->Prop}(hc:cell h ⟨b,o+i,none⟩=some (.int k x))(hK:K x):gI k (Addr.add ⟨b,o,none⟩ i) h K:=by
 rw[add_lit];exact oD hc hK
theorem cT {e:Int}{m:Nat}{K:Int->Prop}(he:e=(m:Int))(hm:m<=4611686018427387904)(hK:K (m:Int)):Ar .i64 e K:=by
 rw[he];exact ar O O hK
theorem EO {k:Nat}(h:k<=62):min ((k:Int).toNat) IntKind.i64.bits=k:=by
 have:IntKind.i64.bits=64:=rfl;rw[this];omega
theorem vI {k:IntKind}{e:Int}{K:Int->Prop}(hK:K (k.wrap e)):Ar k e K:=hK
variable {U:Hp}{b o i j:Nat}{cs:List Value}
theorem bY.rI (hb:bY U b cs){k:IntKind}{x:Int}{K:Int->Prop}(hc:cs[o+i]?=some (.int k x))(hK:K x):gI k (Addr.add ⟨b,o,none⟩ i) U K:=by
 rw[add_lit];exact oD (hb.cell.trans hc) hK
theorem bY.rB (hb:bY U b cs){x:Bool}{K:Bool->Prop}(hc:cs[o+i]?=some (.bool x))(hK:K x):lR (Addr.add ⟨b,o,none⟩ i) U K:=by
 rw[add_lit];exact nF (hb.cell.trans hc) hK
theorem bY.rP (hb:bY U b cs){x:Option Addr}{K:Option Addr->Prop}(hc:cs[o+i]?=some (.pointer x))(hK:K x):fX (Addr.add ⟨b,o,none⟩ i) U K:=by
 rw[add_lit];exact vX (hb.cell.trans hc) hK
theorem bY.rM (hb:bY U b cs){x:Option Nat}{K:Option Nat->Prop}(hc:cs[o+i]?=some (.map x))(hK:K x):lJ (Addr.add ⟨b,o,none⟩ i) U K:=by
 rw[add_lit];exact Fz (hb.cell.trans hc) hK
theorem bY.rS (hb:bY U b cs){a:Option Addr}{n c:Nat}{K:Sl->Prop}(hc:cs[o+i]?=some (.slice a n c))(hK:K ⟨a,n,c⟩):jH (Addr.add ⟨b,o,none⟩ i) U K:=by
 rw[add_lit];exact oB (hb.cell.trans hc) hK
theorem bY.fD (hb:bY U b cs){k:IntKind}{x:Int}{K:Int->Prop}(hc:cs[o+i+j]?=some (.int k x))(hK:K x):gI k (Addr.add (Addr.add ⟨b,o,none⟩ i) j) U K:=by
 rw[add_lit,add_lit];exact oD (hb.cell.trans hc) hK
theorem bY.uW (hb:bY U b cs){k:IntKind}{x:Int}{K:Int->Prop}(hc:cs[o]?=some (.int k x))(hK:K x):gI k ⟨b,o,none⟩ U K:=oD (hb.cell.trans hc) hK
theorem bY.pY (hb:bY U b cs){x:Option Addr}{K:Option Addr->Prop}(hc:cs[o]?=some (.pointer x))(hK:K x):fX ⟨b,o,none⟩ U K:=vX (hb.cell.trans hc) hK
theorem bY.wg (hb:bY U b cs){a:Option Addr}{n c:Nat}{K:Sl->Prop}(hc:cs[o]?=some (.slice a n c))(hK:K ⟨a,n,c⟩):jH ⟨b,o,none⟩ U K:=oB (hb.cell.trans hc) hK
theorem bY.s1 (hb:bY U b cs){v:Value}(ho:o+i<cs.length){K:aP}(hK:∀h',Kb U h' b->bY h' b (cs.set (o+i) v)->K h'):dQ (Addr.add ⟨b,o,none⟩ i) v U K:=by
 rw[add_lit];refine⟨?_,hb.oI,hK _ ⟨VH _ _ _,λc a=>Uc a⟩ (hb.set v)⟩;rw[hb.cell,cW ho];rfl
theorem bY.s0 (hb:bY U b cs){v:Value}(ho:o<cs.length){K:aP}(hK:∀h',Kb U h' b->bY h' b (cs.set o v)->K h'):dQ ⟨b,o,none⟩ v U K:=by
 refine⟨?_,hb.oI,hK _ ⟨VH _ _ _,λc a=>Uc a⟩ (hb.set v)⟩;rw[hb.cell,cW ho];rfl
theorem nw {e:Nat}{K:Addr->Hp->Prop}(hK:∀h',h'.size=U.size+1->aF U h'->bY h' U.size cs->K ⟨U.size,0,none⟩ h'):Nw (.cells cs.toArray e (0,0)) U K:=
 hK _ aA (Ext.push _ _ _) (bY.push _ _ _)
theorem uL {K:Addr->Hp->Prop}(hK:∀h',h'.size=U.size+1->aF U h'->(∀(k:IntKind) (c:CK),dK h' U.size k c [])->K ⟨U.size,0,none⟩ h'):Nw (.map #[] 0) U K:=
 hK _ aA (Ext.push _ _ _) λk c=>dK.push _ _ _
theorem mk {n bytes e:Nat}{zs:List Value}{K:Sl->Hp->Prop}(h1:bytes*n<=1073741824)(h2:n<=1073741824)
 (hK:∀h',h'.size=U.size+1->aF U h'->bY h' U.size (List.replicate n zs).flatten->K ⟨some ⟨U.size,0,none⟩,n,n⟩ h'):Mk (n:Int) (n:Int) bytes e zs U K:=by
 refine⟨O,wU _,?_,O,?_⟩
 ·have:((bytes:Int)*(n:Int))=((bytes*n:Nat):Int):=by simp
  rw[this];omega
 ·simp only[dH];exact nw hK
theorem jy {s:Sl}{sz lo hi mx:Nat}{K:Sl->Prop}(h1:lo<=hi)(h2:hi<=mx)(h3:mx<=s.cap)(hK:K ⟨if mx=lo then s.a else s.a.map (·.add (lo*sz)),hi-lo,mx-lo⟩):fH s sz (lo:Int) (hi:Int) (mx:Int) K:=
 ⟨O,O,O,O,by simpa using hK⟩
theorem lX (a b:Nat):(((a:Nat):Int)==((b:Nat):Int))=(a==b):=by rw[kW];simp;omega
theorem sv (a b:Nat):(((a:Nat):Int) != ((b:Nat):Int))=(a != b):=by rw[bne,bne,lX]
theorem yp (a:Nat):(((a:Nat):Int)==0)=(a==0):=lX a 0
theorem NT (a:Nat):(((a:Nat):Int) != 0)=(a != 0):=sv a 0
def ints (l:List Nat):List Value:=l.map λ(x:Nat)=>Value.int .i64 (x:Int)
theorem Kn (l:List Nat):(ints l).length=l.length:=by simp[ints]
theorem OT {l:List Nat}{i x:Nat}(h:l[i]?=some x):(ints l)[i]?=some (.int .i64 (x:Int)):=by simp[ints,h]
theorem Hv (l m:List Nat):ints (l++m)=ints l++ints m:=by simp[ints]
theorem cV.tC {s:Sl}{F:Rg}{xs:List Nat}(h:cV s 1 (ints xs) U F){i x:Nat}(hx:xs[i]?=some x){K:Int->Prop}(hK:K (x:Int)):Ix s.a s.len (i:Int) 1 λa=>gI .i64 a U K:=by
 have hi:=(cY.1 hx).1;obtain⟨b,o,j,d⟩:=h.cell (OT hx);have g:=h.1;rw[Kn]at g;rw[j];refine ix O O ?_;rw[add_lit];exact oD (by simpa using d) hK
theorem cV.oS {s:Sl}{F:Rg}{xs:List Nat}(h:cV s 1 (ints xs) U F):s.len=xs.length:=by
 have:=h.1;rw[Kn]at this;omega
theorem cV.nil (F:Rg)(a:Option Addr)(c sz:Nat):cV ⟨a,0,c⟩ sz [] U F:=⟨by simp,.inl rfl⟩
theorem bY.fW {s:Sl}{sz:Nat}{xs:List Value}(hb:bY U b cs)(ha:s.a=some ⟨b,o,none⟩)(hl:xs.length=s.len*sz)(hc:∀j,j<xs.length->cs[o+j]?=xs[j]?):cV s sz xs U (· = b):=
 ⟨hl,.inr ⟨b,o,cs,rfl,ha,hb.q,hc⟩⟩
theorem cV.any {s:Sl}{sz:Nat}{xs:List Value}{F:Rg}(h:cV s sz xs U F):cV s sz xs U λ_=>True:=(cV.loc s sz xs).mono h λ_ _ _=>trivial
theorem Wme {a xa:Option Addr}{xc sz bytes e:Nat}{zs:List Value}{K:Sl->Hp->Prop}(hK:K ⟨a,0,0⟩ U):App ⟨a,0,0⟩ sz bytes e zs ⟨xa,0,xc⟩ U K:=by
 refine⟨[],[],by simp,by simp,by cases a<;>simp[Rd],by cases xa<;>simp[Rd],by simp,by simp,by simp,λ_=>?_,λh=>absurd (zD 0) h⟩
 cases a
 ·exact hK
 ·exact hK
theorem bT.push {F:Rg}{s:Sl}{sz bytes e t:Nat}{zs xs vs:List Value}{K:Sl->Hp->Prop}(ho:bT s sz xs U F)(hF:∀b,U.size<=b->F b)(hz:zs.length=sz)(hv:vs.length=sz)(h1:∀v∈vs,dV v=true)
 (hb:bytes<=1000) (hl:s.len<=1000000) (hK:∀s' h',s'.len=s.len+1->Ext F U h'->bT s' sz (xs++vs) h' F->K s' h') :
 Nw (.cells vs.toArray t (0,0)) U λn v=>App s sz bytes e zs ⟨some n,1,1⟩ v K:=by
 refine nw λv r e1 i=>?_;have a:=(bT.loc s sz xs).bP ho e1;refine a.app (ys:=vs) hz (by simp[hv]) ?_ h1 ?_ ?_ nh λs' h' g p d=>hK s' h' g (e1.to.trans p) ?_
 ·intro j u hu;rw[add_lit,zH,i.cell];exact hu
 ·simp only;have:(s.len+1)*bytes<=1000001*1000:=mu O hb;omega
 ·simp only;omega
 ·exact aI.mono d λb _ m=>by
   rcases m with h|h
   ·exact h
   ·exact hF b O
theorem bT.oS {F:Rg}{s:Sl}{xs:List Nat}(h:bT s 1 (ints xs) U F):s.len=xs.length:=by
 have:=h.1;rw[Kn]at this;omega
theorem Cs {F:Rg}{s:Sl}{sz bytes e:Nat}{zs vs:List Value}{R:Sl->Hp->Prop}(h:cV s sz vs U F)(hpos:0<sz)(hz:zs.length=sz)(h1:∀v∈vs,dV v=true)(hb:bytes<=1000)(hl:s.len<=1000000)
 (hR:∀s' σ',s'.len=s.len->aF U σ'->bT s' sz vs σ' (λb=>U.size<=b)->R s' σ') :
 If s.a.isNone (R ⟨none,0,0⟩ U) (Nw (.cells #[] e (0,0)) U λn v=>App ⟨some n,0,0⟩ sz bytes e zs s v λt v1=>R t v1):=by
 have d:=h.1;refine cO (λm=>?_) λm=>?_
 ·have r:vs=[]:=by
   rcases h.2 with g|⟨b,o,cs,_,ha,_⟩
   ·exact g
   ·rw[ha]at m;cases m
  subst r;have g:s.len=0:=by
   have A:s.len*sz=0:=by simpa using d.symm
   rcases vG.1 A with h|h
   ·exact h
   ·omega
  exact hR _ _ (by simp[g]) (Ext.refl _ _) (bT.nil _ _ _ _)
 ·refine nw (cs:=[]) λv x e1 B=>?_;have u:=(cV.loc s sz vs).bP h e1;rcases Cz s.len with g|g
  ·obtain⟨a,n,c⟩:=s;simp only at g;subst g;have:vs=[]:=by simpa using d
   subst this;exact Wme (hR _ _ rfl e1 (bT.nil _ _ _ _))
  ·refine(bT.nil v (λb=>U.size<=b) sz (some ⟨U.size,0,none⟩)).app (ys:=vs) hz d u.rd h1 ?_ ?_ g λs' y p w j=>hR s' y (by simpa using p) ?_ ?_
   ·simp only[zH];have:s.len*bytes<=1000000*1000:=mu hl hb;omega
   ·simp only;omega
   ·exact Ext.fresh e1 w λi hi=>hi
   ·rw[rH]at j;exact aI.mono j λb _ z=>by
     rcases z with h|h
     ·exact h
     ·omega
def Cut (F:Rg)(U:Hp):Rg:=λb=>F b/\b<U.size
theorem dN.cut {P:Hp->Rg->Prop}(hl:dN P){F:Rg}(h:P U F):P U (Cut F U):=hl.mono h λb a d=>⟨d,a⟩
theorem Ext.cut {F:Rg}{σ':Hp}(e:Ext (Cut F U) U σ'):Ext F U σ':=⟨e.1,λb a g=>e.2 b a λd=>g d.1⟩
theorem Ext.sub {F G:Rg}{a b:Hp}(e:Ext F a b)(h:∀i,F i->G i):Ext G a b:=e.mono λi _ d=>h i d
theorem Kb.ext {h h':Hp}{r:Nat}(ho:Kb h h' r):Ext (· = r) h h':=Ext.eU ho rfl
theorem Ext.jC {F:Rg}{a b c:Hp}(e:Ext F a b)(k:Ext (Grow F a) b c):Ext F a c:=
 ⟨ky e.1 k.1,λi hi d=>(k.2 i (wy hi e.1) λg=>by rcases g with h|h;exact d h;omega).trans (e.2 i hi d)⟩
theorem Ext.dW {F G:Rg}{a b c:Hp}(e:Ext F a b)(k:Ext G b c)(h:∀i,G i->F i\/a.size<=i):Ext F a c:=e.jC (k.sub h)
theorem Gp {P:Program}{f:Nat}{first caps:Array Value}{args:List Value}{all:Array Value}{rs:List SK}{R:eX (fo rs)}(hok:Uz P f=true)(he:first++args.toArray++caps=all)
 (hc:Wg P f all rs U R):VJ P ⟨f,first,caps⟩ args rs U R:=⟨hok,by unfold Lz;simp only;rw[he];exact hc⟩
theorem KX {h h':Hp}{F:Nat->Prop}(e:Ext F h h'){b o:Nat}(hb:b<h.size)(hF:¬F b):cell h' ⟨b,o,none⟩=cell h ⟨b,o,none⟩:=by
 unfold cell;rw[e.2 b hb hF]
theorem Nv {h h':Hp}{l:Sl}{xs:List (Int×Int×Int)}{F:Nat->Prop}(ha:iu h l xs)(e:Ext F h h')(hF:∀b,F b->∀o,l.a≠some ⟨b,o,none⟩):iu h' l xs:=by
 refine⟨ha.1,λi x y z u=>?_⟩;obtain⟨b,o,j,d,p,s,m⟩:=ha.2 i x y z u;have g:¬F b:=λr=>hF b r o j;exact⟨b,o,j,wy d e.1,by rw[KX e d g];exact p,by rw[KX e d g];exact s,by rw[KX e d g];exact m⟩
theorem Qv {h h':Hp}{l:Sl}{xs:List (Int×Int×Int)}(ha:iu h l xs)(e:aF h h'):iu h' l xs:=Nv ha e λ_ h=>h.elim
theorem AF {h:Hp}{l:Sl}{xs:List (Int×Int×Int)}(ha:iu h l xs){i:Nat}{x y z:Int}(hx:xs[i]?=some (x,y,z)){K:Int->Int->Int->Prop}(hK:K x y z) :
 Ix l.a l.len (i:Int) 3 λa=>gI .i64 (a.add 0) h λu=>gI .i64 (a.add 1) h λv=>gI .i64 (a.add 2) h λw=>K u v w:=by
 obtain⟨b,o,d,p,j,m,g⟩:=ha.2 i x y z hx;have hi:=(cY.1 hx).1;rw[d];refine ix O (by rw[ha.1];omega) ?_;rw[add_lit];refine eB (by simpa using j) (eB (by simpa using m) (eB (by simpa using g) hK))
end Go.Vc
namespace Go.Proofs
open Go.Vc
abbrev _root_.R1:=@Wg Tryz.prog
abbrev _root_.R2:=Option Addr
def WV.c (a b c d e f g h:Int)(i:Sl)(j k l:Int)(m:Hp)(n:aO):Prop:=R1 6 #[.agg #[.I a,.I b,.I c,.I d,.I e,.I f],.I g,.I h,.slice i.a i.len i.cap,.int .u8 j,.int .u8 k,.I l] [.one .b] m n
def X7.c (a b c d e f g h:Int)(i:Hp)(j:Option Addr->Hp->Prop):Prop:=R1 13 #[.agg #[.I a,.I b,.I c,.I d,.I e,.I f],.I g,.I h] [.one .p] i j
def X8.c (a:Sl)(b:Int)(c:Hp)(d:aO):Prop:=R1 14 #[.slice a.a a.len a.cap,.I b] [.one .b] c d
def Xn.c (a:Hp)(b:aO):Prop:=R1 15 #[] [.one .b] a b
def Wz.c (a:R2)(b:Hp)(c:Sl->Hp->Prop):Prop:=R1 16 #[.pointer a] [.one .s] b c
def Xq.c (a:R2)(b c d e f g h:Int)(i:ByteArray)(j:Hp)(k:aN):Prop:=R1 17 #[.pointer a,.agg #[.I b,.I c,.I d,.I e,.I f,.I g,.I h,.string i]] [.I] j k
def WC.c (a:R2)(b:Hp)(c:aN):Prop:=R1 18 #[.pointer a] [.I] b c
def XK.c (a b:Sl)(c:Hp)(d:aO):Prop:=R1 19 #[.slice a.a a.len a.cap,.slice b.a b.len b.cap] [.one .b] c d
def X6.c (a b c d e f g h:Int)(i:Sl)(j:Int)(k:Hp)(l:Option Addr->Hp->Prop):Prop:=R1 20 #[.agg #[.I a,.I b,.I c,.I d,.I e,.I f],.I g,.I h,.slice i.a i.len i.cap,.I j] [.one .p] k l
def Wp.c (a:R2)(b c d:Int)(e:Hp)(f:Int->Int->Hp->Prop):Prop:=R1 21 #[.pointer a,.I b,.I c,.I d] [.I,.I] e f
def Y4.c (a:R2)(b c d:Int)(e:Hp)(f:Int->Int->Hp->Prop):Prop:=R1 22 #[.pointer a,.I b,.I c,.I d] [.I,.I] e f
def WO.c (a:R2)(b:Hp)(c:Option Addr->Hp->Prop):Prop:=R1 23 #[.pointer a] [.one .p] b c
def Yt.c (a:R2)(b:Int)(c:Hp)(d:Int->Int->Int->Int->Int->Hp->Prop):Prop:=R1 24 #[.pointer a,.I b] [.agg [bO,bO,bO,bO],.I] c d
def Zf.c (a:Sl)(b c d e f g h:Int)(i:ByteArray)(j:Hp)(k:aN):Prop:=R1 25 #[.slice a.a a.len a.cap,.agg #[.I b,.I c,.I d,.I e,.I f,.I g,.I h,.string i]] [.I] j k
def Ww.c (a:R2)(b:Hp)(c:Sl->Hp->Prop):Prop:=R1 27 #[.pointer a] [.one .s] b c
def Y6.c (a:Int)(b:Hp)(c:aN):Prop:=R1 28 #[.I a] [.I] b c
def Xr.c (a:R2)(b c:Int)(d:Hp)(e:aN):Prop:=R1 29 #[.pointer a,.I b,.I c] [.I] d e
def Wx.c (a:R2)(b:Int)(c:Hp)(d:Int->Int->Hp->Prop):Prop:=R1 30 #[.pointer a,.I b] [.I,.I] c d
def YC.c (a:R2)(b:Int)(c:Hp)(d:Int->Int->Hp->Prop):Prop:=R1 32 #[.pointer a,.I b] [.I,.I] c d
def Zi.c (a:R2)(b:Hp)(c:Sl->Hp->Prop):Prop:=R1 33 #[.pointer a] [.one .s] b c
def Wj.c (a:R2)(b c:Int)(d:Hp)(e:aN):Prop:=R1 34 #[.pointer a,.I b,.I c] [.I] d e
def Zz.c (a:R2)(b c:Int)(d:Hp)(e:Option Addr->Int->Hp->Prop):Prop:=R1 36 #[.pointer a,.I b,.I c] [.one .p,.I] d e
def WG.c (a:R2)(b:Int)(c:Hp)(d:Int->Int->Hp->Prop):Prop:=R1 37 #[.pointer a,.I b] [.I,.I] c d
def Kf.c (a:R2)(b:Hp)(c:Option Addr->Int->Hp->Prop):Prop:=R1 38 #[.pointer a] [.one .p,.I] b c
def XO.c (a:Hp)(b:Option Addr->Hp->Prop):Prop:=R1 39 #[] [.one .p] a b
def WP.c (a:R2)(b c:Int)(d:Hp)(e:aN):Prop:=R1 40 #[.pointer a,.I b,.I c] [.I] d e
def XD.c (a:R2)(b:Hp)(c:Option Addr->Hp->Prop):Prop:=R1 43 #[.pointer a] [.one .p] b c
def Xa.c (a b c d e f:Int)(g:Hp)(h:aO):Prop:=R1 52 #[.agg #[.I a,.I b,.I c,.I d,.I e,.I f]] [.one .b] g h
def WM.c (a b c d e f:Int)(g:Hp)(h:Option Addr->Hp->Prop):Prop:=R1 53 #[.agg #[.I a,.I b,.I c,.I d,.I e,.I f]] [.one .p] g h
def Xi.c (a b:Sl)(c:Hp)(d:aO):Prop:=R1 54 #[.slice a.a a.len a.cap,.slice b.a b.len b.cap] [.one .b] c d
def Wm.c (a:R2)(b:Hp)(c:aO):Prop:=R1 55 #[.pointer a] [.one .b] b c
def Yb.c (a:R2)(b c d:Int)(e:Hp)(f:Int->Int->Hp->Prop):Prop:=R1 56 #[.pointer a,.I b,.I c,.I d] [.I,.I] e f
def Yp.c (a:R2)(b c d e f:Int)(g:Hp)(h:Int->Int->Hp->Prop):Prop:=R1 57 #[.pointer a,.I b,.agg #[.I c,.I d,.I e,.I f]] [.I,.I] g h
def W9.c (a:R2)(b:Hp)(c:aO):Prop:=R1 58 #[.pointer a] [.one .b] b c
def Zt.c (a:R2)(b:Int)(c:Fv)(d:Hp)(e:Int->Int->Int->Int->Int->Bool->Hp->Prop):Prop:=R1 59 #[.pointer a,.I b,.func (.func c.f) c.first c.captured] [.agg [bO,bO,bO,bO,bO],.one .b] d e
def Y3.c (a b c d e:Int)(f:Hp)(g:aN):Prop:=R1 60 #[.agg #[.I a,.I b,.I c,.I d,.I e]] [.I] f g
def YV.c (a:R2)(b:Hp)(c:Option Addr->Hp->Prop):Prop:=R1 61 #[.pointer a] [.one .p] b c
def YJ.c (a:R2)(b c:Int)(d:Hp)(e:aN):Prop:=R1 62 #[.pointer a,.I b,.I c] [.I] d e
def WL.c (a:R2)(b:Int)(c:Hp)(d:aN):Prop:=R1 63 #[.pointer a,.I b] [.I] c d
def WE.c (a:R2)(b:Int)(c:Hp)(d:aP):Prop:=R1 64 #[.pointer a,.I b] [] c d
def Zj.c (a:R2)(b:Int)(c:Hp)(d:Int->Int->Hp->Prop):Prop:=R1 65 #[.pointer a,.I b] [.I,.I] c d
def Ua.c (a:Fv)(b:Hp)(c:Sl->Hp->Prop):Prop:=R1 66 #[.func (.func a.f) a.first a.captured] [.one .s] b c
def ZJ.c (a:Option Nat)(b:Hp)(c:Fv->Hp->Prop):Prop:=R1 67 #[.map a] [.one .fn] b c
def WR.c (a:R2)(b:Int)(c:Hp)(d:aO):Prop:=R1 68 #[.pointer a,.I b] [.one .b] c d
def WD.c (a:R2)(b:Int)(c:Hp)(d:Int->Int->Int->Int->Bool->Hp->Prop):Prop:=R1 69 #[.pointer a,.I b] [.agg [bO,bO,bO,bO],.one .b] c d
def Ze.c (a:R2)(b c:Int)(d:Hp)(e:aN):Prop:=R1 70 #[.pointer a,.I b,.I c] [.I] d e
def X1.c (a:R2)(b:Int)(c:Hp)(d:Sl->Int->Hp->Prop):Prop:=R1 71 #[.pointer a,.I b] [.one .s,.I] c d
def XR.c (a b c d:Int)(e:Hp)(f:Sl->Hp->Prop):Prop:=R1 72 #[.agg #[.I a,.I b,.I c,.I d]] [.one .s] e f
def XP.c (a:R2)(b:Hp)(c:aO):Prop:=R1 73 #[.pointer a] [.one .b] b c
def WK.c (a:R2)(b:Int)(c:Hp)(d:aO):Prop:=R1 75 #[.pointer a,.I b] [.one .b] c d
def Y9.c (a:R2)(b:Int)(c:Hp)(d:Int->Int->Hp->Prop):Prop:=R1 76 #[.pointer a,.I b] [.I,.I] c d
def Q9.c (a:R2)(b:Hp)(c:aO):Prop:=R1 77 #[.pointer a] [.one .b] b c
def YN.c (a:R2)(b c:Int)(d:Hp)(e:aN):Prop:=R1 78 #[.pointer a,.I b,.I c] [.I] d e
def Wh.c (a:Sl)(b:Hp)(c:Sl->Hp->Prop):Prop:=R1 79 #[.slice a.a a.len a.cap] [.one .s] b c
def ZP.c (a:R2)(b c:Int)(d:Hp)(e:aN):Prop:=R1 81 #[.pointer a,.I b,.I c] [.I] d e
def Zp.c (a:R2)(b c d e f:Int)(g:Hp)(h:aN):Prop:=R1 83 #[.pointer a,.I b,.agg #[.I c,.I d,.I e,.I f]] [.I] g h
def Zu.c (a:R2)(b:Int)(c:Hp)(d:Bool->Int->Int->Int->Hp->Prop):Prop:=R1 84 #[.pointer a,.I b] [.one .b,.agg [bO,bO],.I] c d
def XX.c (a:R2)(b:Hp)(c:aN):Prop:=R1 90 #[.pointer a] [.I] b c
def Xg.c (a:Int)(b:Hp)(c:Sl->Int->Hp->Prop):Prop:=R1 96 #[.I a] [.one .s,.I] b c
def Vj.c (a:Sl)(b c d e f:Int)(g:Hp)(h:Option Addr->Int->Hp->Prop):Prop:=R1 97 #[.slice a.a a.len a.cap,.agg #[.I b,.I c,.I d,.I e,.I f]] [.one .p,.I] g h
def XG.c (a b c d e:Int)(f:Hp)(g:aN):Prop:=R1 98 #[.agg #[.I a,.I b,.I c,.I d,.I e]] [.I] f g
def XU.c (a:R2)(b:Int)(c:Hp)(d:Int->Int->Hp->Prop):Prop:=R1 99 #[.pointer a,.I b] [.I,.I] c d
def X3.c (a b c d e:Int)(f:Hp)(g:Fv->Hp->Prop):Prop:=R1 100 #[.agg #[.I a,.I b,.I c,.I d,.I e]] [.one .fn] f g
def Z8.c (a:Int)(b:Hp)(c:aN):Prop:=R1 101 #[.I a] [.I] b c
def Yr.c (a:R2)(b c d e f g:Int)(h:Hp)(i:aP):Prop:=R1 102 #[.pointer a,.agg #[.I b,.I c,.I d,.I e,.I f],.I g] [] h i
def XE.c (a:R2)(b c d e f:Int)(g:Hp)(h:aO):Prop:=R1 103 #[.pointer a,.agg #[.I b,.I c,.I d,.I e,.I f]] [.one .b] g h
def XJ.c (a:R2)(b c:Int)(d:Hp)(e:aN):Prop:=R1 104 #[.pointer a,.I b,.I c] [.I] d e
def Zv.c (a:R2)(b c:Int)(d:Hp)(e:aP):Prop:=R1 105 #[.pointer a,.I b,.I c] [] d e
def XS.c (a:R2)(b:Hp)(c:Int->Int->Int->Int->Int->Hp->Prop):Prop:=R1 106 #[.pointer a] [.agg [bO,bO,bO,bO,bO]] b c
def YZ.c (a:R2)(b:Int)(c:Hp)(d:ByteArray->Hp->Prop):Prop:=R1 107 #[.pointer a,.I b] [.one .str] c d
def W7.c (a:Sl)(b:Hp)(c:aN):Prop:=R1 108 #[.slice a.a a.len a.cap] [.I] b c
def Zl.c (a:R2)(b c:Int)(d:Hp)(e:aN):Prop:=R1 109 #[.pointer a,.I b,.I c] [.I] d e
def Zy.c (a:R2)(b:Int)(c:Hp)(d:aN):Prop:=R1 110 #[.pointer a,.I b] [.I] c d
def VT.c (a:Fv)(b:Hp)(c:Sl->Hp->Prop):Prop:=R1 111 #[.func (.func a.f) a.first a.captured] [.one .s] b c
def QG.c (a:Fv)(b:Addr)(c:Hp)(d:aP):Prop:=R1 113 #[.func (.func a.f) a.first a.captured,.pointer (some b)] [] c d
def Wb.c (a:Sl)(b:Fv)(c:Hp)(d:aO):Prop:=R1 114 #[.slice a.a a.len a.cap,.func (.func b.f) b.first b.captured] [.one .b] c d
def W5.c (a b:Int)(c:Addr)(d:Hp)(e:aO):Prop:=R1 115 #[.agg #[.I a,.I b],.pointer (some c)] [.one .b] d e
def Wf.c (a:Sl)(b:Int)(c:Fv)(d:Hp)(e:Int->Bool->Hp->Prop):Prop:=R1 116 #[.slice a.a a.len a.cap,.I b,.func (.func c.f) c.first c.captured] [.I,.one .b] d e
def WX.c (a b c d e:Int)(f:Hp)(g:aN):Prop:=R1 117 #[.agg #[.I a,.I b,.I c,.I d],.I e] [.I] f g
def XQ.c (a:R2)(b c:Int)(d:Bool)(e:Hp)(f:aN):Prop:=R1 118 #[.pointer a,.I b,.I c,.bool d] [.I] e f
def XM.c (a:R2)(b c d e f:Int)(g:Hp)(h:Sl->Hp->Prop):Prop:=R1 119 #[.pointer a,.agg #[.I b,.I c,.I d,.I e,.I f]] [.one .s] g h
def QW.c (a:Fv)(b:Addr)(c:Hp)(d:aP):Prop:=R1 120 #[.func (.func a.f) a.first a.captured,.pointer (some b)] [] c d
def WY.c (a b:Int)(c d:Addr)(e:Hp)(f:aO):Prop:=R1 121 #[.agg #[.I a,.I b],.pointer (some c),.pointer (some d)] [.one .b] e f
def Wv.c (a:Sl)(b:Int)(c:Hp)(d:aO):Prop:=R1 122 #[.slice a.a a.len a.cap,.I b] [.one .b] c d
def Yo.c (a:R2)(b:Int)(c:Hp)(d:aN):Prop:=R1 123 #[.pointer a,.I b] [.I] c d
def Yk.c (a:R2)(b:Int)(c:Hp)(d:aO):Prop:=R1 124 #[.pointer a,.I b] [.one .b] c d
def YI.c (a:R2)(b c d e:Int)(f:Hp)(g:Value->Hp->Prop):Prop:=R1 125 #[.pointer a,.agg #[.I b,.I c,.I d,.I e]] [.one .raw] f g
def ZS.c (a:R2)(b:Int)(c:Value)(d:Hp)(e:Value->Int->Int->Hp->Prop):Prop:=R1 126 #[.pointer a,.I b,c] [.one .raw,.agg [bO,bO]] d e
def X5.c (a:R2)(b:Hp)(c:aN):Prop:=R1 130 #[.pointer a] [.I] b c
def XT.c (a:R2)(b:Hp)(c:aO):Prop:=R1 131 #[.pointer a] [.one .b] b c
def Xv.c (a:R2)(b:Hp)(c:aO):Prop:=R1 132 #[.pointer a] [.one .b] b c
def Xw.c (a:R2)(b:Hp)(c:aO):Prop:=R1 133 #[.pointer a] [.one .b] b c
def Wo.c (a:Sl)(b:Hp)(c:Sl->Hp->Prop):Prop:=R1 141 #[.slice a.a a.len a.cap] [.one .s] b c
def W4.c (a:Sl)(b:Hp)(c:Sl->Hp->Prop):Prop:=R1 146 #[.slice a.a a.len a.cap] [.one .s] b c
def Xz.c (a b:Int)(c:Hp)(d:Int->Int->Int->Hp->Prop):Prop:=R1 148 #[.I a,.I b] [.agg [bO,bO,bO]] c d
def Ya.c (a b:Int)(c:Hp)(d:aN):Prop:=R1 149 #[.I a,.I b] [.I] c d
def Xb.c (a b c:Int)(d:Hp)(e:aN):Prop:=R1 150 #[.agg #[.I a,.I b,.I c]] [.I] d e
def Z0.c (a:Sl)(b:Hp)(c:aO):Prop:=R1 151 #[.slice a.a a.len a.cap] [.one .b] b c
def Ka.c (a b c d e:Int)(f:Hp)(g:aO):Prop:=R1 152 #[.agg #[.I a,.I b,.I c,.I d,.I e]] [.one .b] f g
def KA.c (a:Int)(b:Hp)(c:Option Addr->Int->Hp->Prop):Prop:=R1 153 #[.I a] [.one .p,.I] b c
def Kz.c (a:Sl)(b:R2)(c:Int)(d:Hp)(e:Option Addr->Int->Hp->Prop):Prop:=R1 154 #[.slice a.a a.len a.cap,.pointer b,.I c] [.one .p,.I] d e
def Ky.c (a:Sl)(b:Int)(c:Hp)(d:Option Addr->Int->Hp->Prop):Prop:=R1 155 #[.slice a.a a.len a.cap,.I b] [.one .p,.I] c d
def Wq.c (a:Sl)(b c:Bool)(d:Hp)(e:aO):Prop:=R1 157 #[.slice a.a a.len a.cap,.agg #[.bool b,.bool c]] [.one .b] d e
def We.c (a:Sl)(b:Fv)(c:Hp)(d:aN):Prop:=R1 161 #[.slice a.a a.len a.cap,.func (.func b.f) b.first b.captured] [.I] c d
def YG.c (a:R2)(b:Int)(c:Hp)(d:aN):Prop:=R1 162 #[.pointer a,.I b] [.I] c d
def W3.c (a:Sl)(b:Int)(c:Hp)(d:aN):Prop:=R1 163 #[.slice a.a a.len a.cap,.I b] [.I] c d
def QL.c (a:Sl)(b c:Int)(d:Hp)(e:Int->Int->Hp->Prop):Prop:=R1 164 #[.slice a.a a.len a.cap,.I b,.I c] [.I,.I] d e
def ZU.c (a:R2)(b:Int)(c:Hp)(d:aN):Prop:=R1 165 #[.pointer a,.I b] [.I] c d
def Ym.c (a:R2)(b:Int)(c:Hp)(d:Int->Int->Hp->Prop):Prop:=R1 166 #[.pointer a,.I b] [.I,.I] c d
def Zh.c (a:R2)(b c d:Int)(e:Hp)(f:Value->Int->Int->Hp->Prop):Prop:=R1 167 #[.pointer a,.I b,.I c,.I d] [.one .raw,.agg [bO,bO]] e f
def Yj.c (a:R2)(b:Int)(c:Hp)(d:Int->Int->Hp->Prop):Prop:=R1 168 #[.pointer a,.I b] [.I,.I] c d
def WT.c (a:R2)(b:Int)(c:Hp)(d:Sl->Int->Hp->Prop):Prop:=R1 169 #[.pointer a,.I b] [.one .s,.I] c d
def YK.c (a:R2)(b c:Int)(d:Sl)(e:Hp)(f:aP):Prop:=R1 170 #[.pointer a,.I b,.I c,.slice d.a d.len d.cap] [] e f
def WZ.c (a:R2)(b c:Int)(d:Hp)(e:Sl->Int->Hp->Prop):Prop:=R1 171 #[.pointer a,.I b,.I c] [.one .s,.I] d e
def Yi.c (a:R2)(b:Int)(c:Hp)(d:aN):Prop:=R1 172 #[.pointer a,.I b] [.I] c d
def Yu.c (a:R2)(b:Int)(c:Sl)(d:Hp)(e:aN):Prop:=R1 173 #[.pointer a,.I b,.slice c.a c.len c.cap] [.I] d e
def Xe.c (a:R2)(b c:Int)(d:Hp)(e:Int->Int->Hp->Prop):Prop:=R1 174 #[.pointer a,.I b,.I c] [.I,.I] d e
def ZQ.c (a:R2)(b c:Int)(d:Hp)(e:Value->Int->Int->Hp->Prop):Prop:=R1 175 #[.pointer a,.I b,.I c] [.one .raw,.agg [bO,bO]] d e
def YY.c (a:R2)(b c:Int)(d:Hp)(e:Sl->Int->Hp->Prop):Prop:=R1 176 #[.pointer a,.I b,.I c] [.one .s,.I] d e
def Yv.c (a:R2)(b:Hp)(c:aO):Prop:=R1 177 #[.pointer a] [.one .b] b c
def Xo.c (a:R2)(b:Hp)(c:Sl->Hp->Prop):Prop:=R1 178 #[.pointer a] [.one .s] b c
def Xl.c (a:R2)(b:Int)(c:Hp)(d:Value->Hp->Prop):Prop:=R1 179 #[.pointer a,.I b] [.one .raw] c d
def WA.c (a:Sl)(b:Hp)(c:Sl->Hp->Prop):Prop:=R1 180 #[.slice a.a a.len a.cap] [.one .s] b c
def ZN.c (a:R2)(b c:Int)(d:Sl)(e:Hp)(f:aP):Prop:=R1 181 #[.pointer a,.I b,.agg #[.I c,.slice d.a d.len d.cap]] [] e f
def Xd.c (a:R2)(b:Int)(c:Hp)(d:aN):Prop:=R1 182 #[.pointer a,.I b] [.I] c d
def X2.c (a:R2)(b:Hp)(c:Sl->Hp->Prop):Prop:=R1 183 #[.pointer a] [.one .s] b c
def Yz.c (a:R2)(b:Sl)(c:Hp)(d:aP):Prop:=R1 184 #[.pointer a,.slice b.a b.len b.cap] [] c d
def X9.c (a:R2)(b:Hp)(c:Sl->Hp->Prop):Prop:=R1 185 #[.pointer a] [.one .s] b c
def Xc.c (a:R2)(b:Int)(c:Sl)(d:Hp)(e:aN):Prop:=R1 194 #[.pointer a,.I b,.slice c.a c.len c.cap] [.I] d e
def Kg.c (a b c:Int)(d:Hp)(e:aO):Prop:=R1 195 #[.agg #[.I a,.I b,.I c]] [.one .b] d e
def Z3.c (a b c:Int)(d:Hp)(e:aN):Prop:=R1 196 #[.agg #[.I a,.I b,.I c]] [.I] d e
def W8.c (a:R2)(b:Hp)(c:aO):Prop:=R1 197 #[.pointer a] [.one .b] b c
def Z4.c (a:R2)(b:Hp)(c:Int->Int->Hp->Prop):Prop:=R1 198 #[.pointer a] [.agg [bO,bO]] b c
def Xy.c (a:R2)(b:Hp)(c:aO):Prop:=R1 199 #[.pointer a] [.one .b] b c
def YD.c (a:R2)(b:Hp)(c:aN):Prop:=R1 201 #[.pointer a] [.I] b c
def Yl.c (a:R2)(b:Hp)(c:aO):Prop:=R1 202 #[.pointer a] [.one .b] b c
def QN.c (a:Hp)(b:Option Addr->Hp->Prop):Prop:=R1 209 #[] [.one .p] a b
def Kx.c (a:Int)(b:Hp)(c:Option Addr->Int->Hp->Prop):Prop:=R1 210 #[.I a] [.one .p,.I] b c
def Vk.c (a:Int)(b:Hp)(c:Option Addr->Int->Hp->Prop):Prop:=R1 211 #[.I a] [.one .p,.I] b c
def QK.c (a b c:Int)(d:Hp)(e:Option Addr->Int->Hp->Prop):Prop:=R1 212 #[.agg #[.I a,.I b,.I c]] [.one .p,.I] d e
def Qp.c (a b:Int)(c:Hp)(d:Option Addr->Int->Hp->Prop):Prop:=R1 213 #[.I a,.I b] [.one .p,.I] c d
def Wu.c (a:Sl)(b c:Bool)(d:Hp)(e:aN):Prop:=R1 214 #[.slice a.a a.len a.cap,.agg #[.bool b,.bool c]] [.I] d e
def QM.c (a:Int)(b:Hp)(c:aN):Prop:=R1 226 #[.I a] [.I] b c
def Ws.c (a:Sl)(b:Fv)(c:Hp)(d:aN):Prop:=R1 227 #[.slice a.a a.len a.cap,.func (.func b.f) b.first b.captured] [.I] c d
def Qj.c (a b c:Int)(d e:Addr)(f:Hp)(g:aO):Prop:=R1 228 #[.agg #[.I a,.I b,.I c],.pointer (some d),.pointer (some e)] [.one .b] f g
def XH.c (a:R2)(b:Int)(c:Hp)(d:Option Addr->Int->Hp->Prop):Prop:=R1 229 #[.pointer a,.I b] [.one .p,.I] c d
def Yx.c (a:R2)(b:Int)(c:Hp)(d:aN):Prop:=R1 230 #[.pointer a,.I b] [.I] c d
def Xf.c (a:R2)(b:Int)(c:Hp)(d:aN):Prop:=R1 231 #[.pointer a,.I b] [.I] c d
def WU.c (a:R2)(b:Hp)(c:Sl->Int->Hp->Prop):Prop:=R1 232 #[.pointer a] [.one .s,.I] b c
def Xu.c (a:R2)(b:Int)(c:Hp)(d:Sl->Int->Hp->Prop):Prop:=R1 233 #[.pointer a,.I b] [.one .s,.I] c d
def Y1.c (a:R2)(b c d:Int)(e:Hp)(f:Int->Int->Hp->Prop):Prop:=R1 234 #[.pointer a,.I b,.I c,.I d] [.I,.I] e f
def Y8.c (a:R2)(b:Int)(c:Hp)(d:aN):Prop:=R1 235 #[.pointer a,.I b] [.I] c d
def Xk.c (a:Sl)(b:Hp)(c:aP):Prop:=R1 236 #[.slice a.a a.len a.cap] [] b c
def Xj.c (a:R2)(b:Sl)(c:Hp)(d:aN):Prop:=R1 237 #[.pointer a,.slice b.a b.len b.cap] [.I] c d
def Za.c (a:R2)(b:Int)(c:Hp)(d:Int->Int->Int->Hp->Prop):Prop:=R1 238 #[.pointer a,.I b] [.I,.I,.I] c d
def Xt.c (a:R2)(b:Int)(c:Hp)(d:Sl->Hp->Prop):Prop:=R1 239 #[.pointer a,.I b] [.one .s] c d
def XB.c (a:R2)(b:Fv)(c:Hp)(d:Sl->Hp->Prop):Prop:=R1 240 #[.pointer a,.func (.func b.f) b.first b.captured] [.one .s] c d
def XI.c (a:R2)(b:Int)(c:Hp)(d:Sl->Hp->Prop):Prop:=R1 241 #[.pointer a,.I b] [.one .s] c d
def W6.c (a:R2)(b:Int)(c:Sl)(d:Hp)(e:Bool->Int->Hp->Prop):Prop:=R1 242 #[.pointer a,.I b,.slice c.a c.len c.cap] [.one .b,.I] d e
def YQ.c (a:R2)(b:Int)(c:Hp)(d:Sl->Hp->Prop):Prop:=R1 243 #[.pointer a,.I b] [.one .s] c d
def X0.c (a:R2)(b c:Int)(d:Hp)(e:aN):Prop:=R1 244 #[.pointer a,.I b,.I c] [.I] d e
def XN.c (a:R2)(b c:Int)(d:Hp)(e:aN):Prop:=R1 245 #[.pointer a,.I b,.I c] [.I] d e
def Yy.c (a:R2)(b c:Int)(d:Hp)(e:aN):Prop:=R1 246 #[.pointer a,.I b,.I c] [.I] d e
def Wi.c (a:Sl)(b:Fv)(c:Hp)(d:Sl->Hp->Prop):Prop:=R1 247 #[.slice a.a a.len a.cap,.func (.func b.f) b.first b.captured] [.one .s] c d
def Yg.c (a b:Int)(c:R2)(d:Addr)(e:Hp)(f:aO):Prop:=R1 248 #[.agg #[.I a,.I b,.pointer c],.pointer (some d)] [.one .b] e f
def XF.c (a:R2)(b:Hp)(c:aO):Prop:=R1 249 #[.pointer a] [.one .b] b c
def Zd.c (a:R2)(b:Hp)(c:aN):Prop:=R1 250 #[.pointer a] [.I] b c
def Zr.c (a:R2)(b:Int)(c:Hp)(d:Sl->Hp->Prop):Prop:=R1 252 #[.pointer a,.I b] [.one .s] c d
def XY.c (a:R2)(b c d:Int)(e:Sl)(f:Hp)(g:aN):Prop:=R1 256 #[.pointer a,.I b,.I c,.I d,.slice e.a e.len e.cap] [.I] f g
def YL.c (a:R2)(b:Int)(c:Hp)(d:Sl->Int->Hp->Prop):Prop:=R1 259 #[.pointer a,.I b] [.one .s,.I] c d
def Q3.c (a:Sl)(b:Int)(c:Hp)(d:aP):Prop:=R1 261 #[.slice a.a a.len a.cap,.I b] [] c d
def Y7.c (a:R2)(b c:Int)(d:Hp)(e:aN):Prop:=R1 262 #[.pointer a,.I b,.I c] [.I] d e
def YE.c (a:R2)(b:Int)(c:Hp)(d:aO):Prop:=R1 263 #[.pointer a,.I b] [.one .b] c d
def ZM.c (a:R2)(b c:Int)(d:Hp)(e:aP):Prop:=R1 264 #[.pointer a,.I b,.I c] [] d e
def Zb.c (a:R2)(b:Sl)(c:Hp)(d:Sl->Int->Hp->Prop):Prop:=R1 267 #[.pointer a,.slice b.a b.len b.cap] [.one .s,.I] c d
def YF.c (a:R2)(b:Hp)(c:aO):Prop:=R1 268 #[.pointer a] [.one .b] b c
def XW.c (a:R2)(b:Hp)(c:aO):Prop:=R1 270 #[.pointer a] [.one .b] b c
def YW.c (a:R2)(b c d:Int)(e:Hp)(f:aN):Prop:=R1 272 #[.pointer a,.I b,.I c,.I d] [.I] e f
def ZV.c (a b c:Int)(d:Hp)(e:Int->Int->Hp->Prop):Prop:=R1 274 #[.agg #[.I a,.I b,.I c]] [.I,.I] d e
def ZO.c (a:R2)(b:Int)(c:Hp)(d:Option Addr->Hp->Prop):Prop:=R1 281 #[.pointer a,.I b] [.one .p] c d
def Wr.c (a:Sl)(b:Fv)(c:Hp)(d:aN):Prop:=R1 282 #[.slice a.a a.len a.cap,.func (.func b.f) b.first b.captured] [.I] c d
def Zo.c (a:R2)(b:Addr)(c:Hp)(d:aO):Prop:=R1 283 #[.pointer a,.pointer (some b)] [.one .b] c d
def Y5.c (a:R2)(b:Int)(c:Hp)(d:aO):Prop:=R1 284 #[.pointer a,.I b] [.one .b] c d
def Zc.c (a:R2)(b:Hp)(c:Int->Bool->Hp->Prop):Prop:=R1 285 #[.pointer a] [.I,.one .b] b c
def XZ.c (a:R2)(b c:Int)(d:Hp)(e:Int->Int->Hp->Prop):Prop:=R1 286 #[.pointer a,.I b,.I c] [.I,.I] d e
def Zg.c (a:R2)(b:Int)(c:Hp)(d:aO):Prop:=R1 287 #[.pointer a,.I b] [.one .b] c d
def XV.c (a:R2)(b c:Int)(d:Hp)(e:aN):Prop:=R1 288 #[.pointer a,.I b,.I c] [.I] d e
def YA.c (a:R2)(b c d:Int)(e:Hp)(f:aN):Prop:=R1 289 #[.pointer a,.I b,.I c,.I d] [.I] e f
def Vi.c (a b c d:Int)(e:Hp)(f:Option Addr->Int->Hp->Prop):Prop:=R1 290 #[.I a,.agg #[.I b,.I c,.I d]] [.one .p,.I] e f
def Wc.c (a:Sl)(b:Int)(c:Fv)(d:Hp)(e:Int->Bool->Hp->Prop):Prop:=R1 291 #[.slice a.a a.len a.cap,.I b,.func (.func c.f) c.first c.captured] [.I,.one .b] d e
def YX.c (a b:Int)(c:R2)(d:Int)(e:Hp)(f:aN):Prop:=R1 292 #[.agg #[.I a,.I b,.pointer c],.I d] [.I] e f
def Wl.c (a:Sl)(b:Int)(c:Sl)(d:Hp)(e:Sl->Hp->Prop):Prop:=R1 293 #[.slice a.a a.len a.cap,.I b,.slice c.a c.len c.cap] [.one .s] d e
def XA.c (a:Sl)(b:Hp)(c:Sl->Hp->Prop):Prop:=R1 294 #[.slice a.a a.len a.cap] [.one .s] b c
def Zq.c (a:R2)(b:Int)(c:Hp)(d:aN):Prop:=R1 295 #[.pointer a,.I b] [.I] c d
def YO.c (a:R2)(b:Int)(c:Hp)(d:Int->Int->Hp->Prop):Prop:=R1 296 #[.pointer a,.I b] [.I,.I] c d
def Qx.c (a:Sl)(b:Fv)(c:Hp)(d:aP):Prop:=R1 297 #[.slice a.a a.len a.cap,.func (.func b.f) b.first b.captured] [] c d
def Xp.c (a:R2)(b:Int)(c:Hp)(d:Bool->Int->Hp->Prop):Prop:=R1 299 #[.pointer a,.I b] [.one .b,.I] c d
def Xs.c (a:R2)(b:Sl)(c:Hp)(d:Bool->Int->Hp->Prop):Prop:=R1 300 #[.pointer a,.slice b.a b.len b.cap] [.one .b,.I] c d
def Ys.c (a:R2)(b c:Int)(d:Hp)(e:aP):Prop:=R1 301 #[.pointer a,.I b,.I c] [] d e
def Wn.c (a:Sl)(b:Fv)(c:Hp)(d:aN):Prop:=R1 302 #[.slice a.a a.len a.cap,.func (.func b.f) b.first b.captured] [.I] c d
def WQ.c (a:Sl)(b:Fv)(c:Hp)(d:aO):Prop:=R1 304 #[.slice a.a a.len a.cap,.func (.func b.f) b.first b.captured] [.one .b] c d
def YP.c (a:Int)(b:Addr)(c:Hp)(d:aO):Prop:=R1 305 #[.I a,.pointer (some b)] [.one .b] c d
def Zw.c (a:R2)(b c:Int)(d:Hp)(e:Sl->Int->Hp->Prop):Prop:=R1 306 #[.pointer a,.I b,.I c] [.one .s,.I] d e
def Zx.c (a:R2)(b c:Int)(d e:Bool)(f:Hp)(g:aP):Prop:=R1 307 #[.pointer a,.I b,.I c,.agg #[.bool d,.bool e]] [] f g
def XL.c (a:R2)(b:Int)(c:Hp)(d:Int->Int->Bool->Hp->Prop):Prop:=R1 308 #[.pointer a,.I b] [.I,.I,.one .b] c d
def X4.c (a:R2)(b:Int)(c:Hp)(d:Option Addr->Hp->Prop):Prop:=R1 310 #[.pointer a,.I b] [.one .p] c d
def ZT.c (a:R2)(b:Int)(c:Hp)(d:aN):Prop:=R1 311 #[.pointer a,.I b] [.I] c d
def Zs.c (a:R2)(b c:Int)(d:Hp)(e:aP):Prop:=R1 312 #[.pointer a,.I b,.I c] [] d e
def Yc.c (a:R2)(b:Int)(c:Hp)(d:aN):Prop:=R1 314 #[.pointer a,.I b] [.I] c d
def Xm.c (a b c d:Int)(e:Hp)(f:aO):Prop:=R1 315 #[.agg #[.I a,.I b],.agg #[.I c,.I d]] [.one .b] e f
def ZR.c (a:R2)(b:Hp)(c:Int->Int->Hp->Prop):Prop:=R1 316 #[.pointer a] [.I,.I] b c
def QR.c (a:Option Nat)(b:Hp)(c:Fv->Hp->Prop):Prop:=R1 317 #[.map a] [.one .fn] b c
def ZA.c (a:R2)(b c:Int)(d:Hp)(e:aN):Prop:=R1 318 #[.pointer a,.I b,.I c] [.I] d e
def Yw.c (a:R2)(b:Int)(c:Hp)(d:aN):Prop:=R1 319 #[.pointer a,.I b] [.I] c d
def Va.c (a:Sl)(b:Int)(c:Hp)(d:aP):Prop:=R1 321 #[.slice a.a a.len a.cap,.I b] [] c d
def Yn.c (a:R2)(b:Int)(c:Hp)(d:Int->Int->Hp->Prop):Prop:=R1 322 #[.pointer a,.I b] [.I,.I] c d
def YH.c (a:R2)(b:Int)(c:Hp)(d:Bool->Int->Hp->Prop):Prop:=R1 324 #[.pointer a,.I b] [.one .b,.I] c d
def ZB.c (a:R2)(b c:Int)(d:Hp)(e:aP):Prop:=R1 325 #[.pointer a,.I b,.I c] [] d e
def Xh.c (a:Sl)(b:Fv)(c:Hp)(d:aN):Prop:=R1 334 #[.slice a.a a.len a.cap,.func (.func b.f) b.first b.captured] [.I] c d
def Yq.c (a:R2)(b:Int)(c:Hp)(d:Int->Int->Hp->Prop):Prop:=R1 335 #[.pointer a,.I b] [.I,.I] c d
def ZC.c (a:R2)(b:Int)(c:Sl)(d:Hp)(e:aP):Prop:=R1 336 #[.pointer a,.I b,.slice c.a c.len c.cap] [] d e
def WN.c (a:R2)(b:Hp)(c:Option Addr->Hp->Prop):Prop:=R1 337 #[.pointer a] [.one .p] b c
def WS.c (a:R2)(b:Hp)(c:Option Addr->Hp->Prop):Prop:=R1 338 #[.pointer a] [.one .p] b c
def YM.c (a:R2)(b:Int)(c:Hp)(d:aN):Prop:=R1 339 #[.pointer a,.I b] [.I] c d
def KJ.c (a:Fv)(b:Addr)(c:Hp)(d:aP):Prop:=R1 340 #[.func (.func a.f) a.first a.captured,.pointer (some b)] [] c d
def Wk.c (a:Sl)(b:Fv)(c:Hp)(d:aO):Prop:=R1 341 #[.slice a.a a.len a.cap,.func (.func b.f) b.first b.captured] [.one .b] c d
def YS.c (a b:Bool)(c:Hp)(d:aO):Prop:=R1 342 #[.agg #[.bool a,.bool b]] [.one .b] c d
def Wt.c (a:Sl)(b:Fv)(c:Hp)(d:aN):Prop:=R1 355 #[.slice a.a a.len a.cap,.func (.func b.f) b.first b.captured] [.I] c d
def Qk.c (a:Int)(b:Hp)(c:ByteArray->Hp->Prop):Prop:=R1 379 #[.agg #[.I a]] [.one .str] b c
def Z6.c (a:Int)(b:Hp)(c:ByteArray->Hp->Prop):Prop:=R1 380 #[.agg #[.I a]] [.one .str] b c
def Qt.c (a:Int)(b:Hp)(c:ByteArray->Hp->Prop):Prop:=R1 381 #[.agg #[.I a]] [.one .str] b c
def Z7.c (a:Hp)(b:ByteArray->Hp->Prop):Prop:=R1 382 #[.agg #[]] [.one .str] a b
def Zn.c (a b:Int)(c:Hp)(d:ByteArray->Hp->Prop):Prop:=R1 383 #[.agg #[.I a,.I b]] [.one .str] c d
def Qi.c (a:Hp)(b:ByteArray->Hp->Prop):Prop:=R1 384 #[.agg #[]] [.one .str] a b
def ZI.c (a b:Int)(c:Hp)(d:ByteArray->Hp->Prop):Prop:=R1 385 #[.agg #[.I a,.I b]] [.one .str] c d
def Qo.c (a b:Int)(c:Hp)(d:ByteArray->Hp->Prop):Prop:=R1 386 #[.agg #[.I a,.I b]] [.one .str] c d
def QH.c (a b:Int)(c:Hp)(d:ByteArray->Hp->Prop):Prop:=R1 387 #[.agg #[.I a,.I b]] [.one .str] c d
def Qm.c (a:Hp)(b:ByteArray->Hp->Prop):Prop:=R1 388 #[.agg #[]] [.one .str] a b
def Qh.c (a b:Int)(c:Hp)(d:ByteArray->Hp->Prop):Prop:=R1 389 #[.agg #[.I a,.I b]] [.one .str] c d
set_option maxRecDepth 100000
def Yl.h:Hn:=.q .o1 (.q (.cU (.seq [.op,.op,.op,.cX true 5 (RI.ops 5),.op])) .l)
abbrev _root_.aQ(a:Addr)(n:Nat)(h:Hp)(K:Int->Prop):Prop:=gI .i64 (a.add n) h K
abbrev _root_.aR(a:Addr)(n:Nat)(v:Value)(h:Hp)(K:Hp->Prop):Prop:=dQ (a.add n) v h K
abbrev _root_.aX(a:Addr)(n:Nat)(h:Hp)(K:Sl->Prop):Prop:=jH (a.add n) h K
abbrev _root_.aY(a:Addr)(n:Nat)(h:Hp)(K:Option Addr->Prop):Prop:=fX (a.add n) h K
abbrev _root_.aZ(a:Addr)(n:Nat)(h:Hp)(K:Bool->Prop):Prop:=lR (a.add n) h K
abbrev _root_.bA(a:Addr)(n:Nat)(h:Hp)(K:Value->Prop):Prop:=AS (a.add n) h K
abbrev _root_.bC(a:Addr)(n:Nat)(h:Hp)(K:Option Nat->Prop):Prop:=lJ (a.add n) h K
abbrev _root_.bD(a:Addr)(n:Nat)(h:Hp)(K:ByteArray->Prop):Prop:=yv (a.add n) h K
abbrev _root_.bE(p:Option Addr)(n:Nat)(h:Hp)(K:Int->Prop):Prop:=bW p λa=>gI .i64 (a.add n) h K
abbrev _root_.bF(p:Option Addr)(n:Nat)(h:Hp)(K:Sl->Prop):Prop:=bW p λa=>jH (a.add n) h K
abbrev _root_.bG(p:Option Addr)(n:Nat)(h:Hp)(K:Option Addr->Prop):Prop:=bW p λa=>fX (a.add n) h K
abbrev _root_.bH(p:Option Addr)(n:Nat)(h:Hp)(K:Bool->Prop):Prop:=bW p λa=>lR (a.add n) h K
abbrev _root_.bI(p:Option Addr)(n:Nat)(h:Hp)(K:Value->Prop):Prop:=bW p λa=>AS (a.add n) h K
abbrev _root_.bJ(p:Option Addr)(n:Nat)(h:Hp)(K:Option Nat->Prop):Prop:=bW p λa=>lJ (a.add n) h K
abbrev _root_.bK(p:Option Addr)(n:Nat)(h:Hp)(K:ByteArray->Prop):Prop:=bW p λa=>yv (a.add n) h K
abbrev _root_.aS(S:Hp->Prop)(a:Addr)(n:Nat)(K:Int->Prop):Prop:=gJ S bO (a.add n) K
abbrev _root_.aT(S:Hp->Prop)(a:Addr)(n:Nat)(K:Sl->Prop):Prop:=gJ S .s (a.add n) K
abbrev _root_.aU(S:Hp->Prop)(a:Addr)(n:Nat)(K:Option Addr->Prop):Prop:=gJ S .p (a.add n) K
abbrev _root_.bM(e:Int)(K:Int->Prop):Prop:=Ar .i64 e K
abbrev _root_.bN(a:Addr)(h:Hp)(K:Int->Prop):Prop:=gI .i64 a h K
abbrev _root_.aV(c:Array Value)(t:Nat)(h:Hp)(K:Addr->Hp->Prop):Prop:=Nw (.cells c t (0,0)) h K
def Yl.v (a:R2)(b:Hp)(c:aO):Prop:=bX (λd e=>c d e) λf=>If (!a.isNone) (bE a 0 b λh=>f (decide (h>0)) b) (f false b)
theorem Yl.o {a b c}(d:Yl.v a b c):Yl.c a b c:=Wa Tryz.func202 (x:=Yl.h) (R0 d)
def Kx.h:Hn:=.q .o2 (.q (.q (.cU (.seq [.op,.op,.op,.cX false 2 [.op,.op]])) .aJ) (.q .o4 (.q (.q .o1 (.k (.loop [(5,.I)] (.q (.q .o3 (.c .l .l)) (.q (.k (.o 11)) .o3))))) (.q .o3 .l))))
def Kx.v (a:Int)(b:Hp)(c:Option Addr->Int->Hp->Prop):Prop:=bX (λd e=>If d (c none 1 e) (Nw (.cells #[.I a,.slice none 0 0] 286 (0,0)) e λf g=>Yf [bO] (λh=>h 1 g) λi (j:Int) k=>If (j<=a) (bW (some f) λl=>jH (l.add 1) k λm=>Nw (.map #[] 0) k λn o=>Nw (.cells #[.map (some n.block)] 73 (0,0)) o λp q=>App m 1 8 73 [.map none] ⟨some p,1,1⟩ q λr s=>bW (some f) λt=>dQ (t.add 1) (.slice r.a r.len r.cap) s λu=>Ar .i64 (j*2) λv=>i v u) (c (some f) 0 k))) λw=>If (a<1) (w true b) (w (decide (a>1024)) b)
theorem Kx.o {a b c}(d:Kx.v a b c):Kx.c a b c:=Wa Tryz.func210 (x:=Kx.h) (R0 d)
def Yy.h:Hn:=.q .o1 (.q (.q .o5 (.q .o2 .aJ)) (.q (.q .o2 (.k (.loop [(8,.I)] (.q (.q .o5 (.c .l .l)) (.q (.k (.q .o3 .aK)) .o3))))) (.q .o4 .aM)))
def Yy.v (a:R2)(b c:Int)(d:Hp)(e:aN):Prop:=Y7.c a b c d λf g=>If (f != 0) (e f g) (Yf [bO] (λh=>h b g) λi (j:Int) k=>bM (b+c) λl=>If (j<l) (YE.c a j k λm n=>If m (e 9 n) (bM (j+1) λo=>i o n)) (Ys.c a b c k λp=>e 0 p))
theorem Yy.o {a b c d e}(f:Yy.v a b c d e):Yy.c a b c d e:=Wa Tryz.func246 (x:=Yy.h) (R0 f)
def Y7.h:Hn:=.q .o1 (.q (.k (.q .o4 (.c .aM (.q (.cU (.seq [.op,.op,.op,.cX false 2 [.op,.op],.op,.cX false 6 (RI.ops 6),.op,.cX false 8 (RI.ops 8),.op])) .aK)))) .aM)
def Y7.v (a:R2)(b c:Int)(d:Hp)(e:aN):Prop:=Yl.c a d λf g=>If (!f) (e 5 g) (bX (λh i=>bX (λj k=>bX (λl m=>If l (e 1 m) (e 0 m)) λn=>If j (n true k) (bE a 0 k λp=>bM (p-b) λq=>n (decide (c>q)) k)) λr=>If h (r true i) (bE a 0 i λt=>r (decide (b>t)) i)) λu=>If (b<0) (u true g) (u (decide (c<1)) g))
theorem Y7.o {a b c d e}(f:Y7.v a b c d e):Y7.c a b c d e:=Wa Tryz.func262 (x:=Y7.h) (R0 f)
def YE.h:Hn:=.q .o1 (.q (.q (.cU (.seq [.op,.op,.op,.op,.cX false 2 [.op,.op],.op,.cX false 6 (RI.ops 6)])) .aK) (.q .gA .aL))
def YE.v (a:R2)(b:Int)(c:Hp)(d:aO):Prop:=Yl.c a c λe f=>bX (λg h=>bX (λi j=>If i (d false j) (XL.c a b j λk l m n=>d m n)) λo=>If g (o true h) (bE a 0 h λq=>o (decide (b≥q)) h)) λr=>If (!e) (r true f) (r (decide (b<0)) f)
theorem YE.o {a b c d}(e:YE.v a b c d):YE.c a b c d:=Wa Tryz.func263 (x:=YE.h) (R0 e)
def ZM.h:Hn:=.q .o2 (.k (.loop [(6,.I)] (.q (.q .o5 (.c .l .l)) (.k (.q .gA (.q .o9 (.q .o5 (.q .o6 (.q (.q .o4 (.q .o3 (.c .o6 .l))) .o2)))))))))
def ZM.v (a:R2)(b c:Int)(d:Hp)(e:aP):Prop:=Yf [bO] (λf=>f b d) λg (h:Int) i=>bM (b+c) λj=>If (h<j) (XL.c a h i λk l m n=>bF a 1 n λp=>Ix p.a p.len k 1 λq=>lJ q n λr=>mj .i64 .b r l n λs=>Nn k<|bM ((1:Int)*2^(min k.toNat IntKind.i64.bits)) λt=>bM (l+t) λu=>bM (h-l) λv=>Ys.c a l v s λw=>bM (b+c) λx=>If (u>x) (bM (u-x) λy=>Ys.c a x y w λz=>g u z) (g u w)) (e i)
theorem ZM.o {a b c d e}(f:ZM.v a b c d e):ZM.c a b c d e:=Wa Tryz.func264 (x:=ZM.h) (R0 f)
def XZ.h:Hn:=.q .o2 (.q (.k (.q .o4 (.c .aL (.q (.cU (.seq [.op,.op,.op,.cX false 2 [.op,.op],.op,.cX false 2 [.op,.op],.op,.cX false 2 [.op,.op],.op,.cX false 5 (RI.ops 5),.op])) .aJ)))) (.q (.q .o6 (.k (.loop [(42,.I)] (.q .o1 (.q (.c .l .l) (.q (.k (.q .o5 (.q (.cU (.seq [.op,.op,.op,.op,.op,.op,.op,.cX true 3 (RI.ops 3)])) (.c (.q .o5 (.q .o4 (.q .o3 .l))) .l)))) .o2)))))) .aL))
def XZ.v (a:R2)(b c:Int)(d:Hp)(e:Int->Int->Hp->Prop):Prop:=Yl.c a d λf g=>If (!f) (e 0 5 g) (bX (λh i=>bX (λj k=>bX (λl m=>bX (λn o=>If n (e 0 1 o) (bF a 1 o λq=>Yf [bO] (λr=>r 0 o) λs (t:Int) u=>If (t<((q.len:Nat):Int)) (Ix q.a q.len t 1 λv=>lJ v u λw=>Nn t<|bM ((1:Int)*2^(min t.toNat IntKind.i64.bits)) λx=>bX (λy z=>If y (QR.c w z λaa ab=>VT.c aa ab λac ad=>W7.c ac ad λae af=>ZM.c a ae b af λag=>e ae 0 ag) (bM (t+1) λah=>s ah z)) λai=>If (x≥(if c>b then c else b)) (re .i64 .b w u λaj=>ai (decide (aj>0)) u) (ai false u)) (e 0 6 u))) λak=>If l (ak true m) (bM (c-1) λal=>ak ((bits .and .i64 c al) != 0) m)) λam=>If j (am true k) (am (decide (c>1024)) k)) λan=>If h (an true i) (an (decide (c<1)) i)) λao=>If (b<1) (ao true g) (ao (decide (b>1024)) g))
theorem XZ.o {a b c d e}(f:XZ.v a b c d e):XZ.c a b c d e:=Wa Tryz.func286 (x:=XZ.h) (R0 f)
def Ys.h:Hn:=.k (.loop [(1,.I),(2,.I)] (.q (.q .o2 (.c .l .l)) (.k (.q .o1 (.q (.k (.loop [(6,.I)] (.q (.q (.cU (.seq [.op,.op,.op,.op,.op,.op,.op,.op,.op,.op,.cX true 5 (RI.ops 5)])) (.c .l .l)) (.k .o3)))) (.q .o4 (.oq 10)))))))
def Ys.v (a:R2)(b c:Int)(d:Hp)(e:aP):Prop:=Yf [bO,bO] (λf=>f b c d) λg (h:Int) (i:Int) j=>If (i>0) (Yf [bO] (λk=>k 0 j) λl (m:Int) n=>bM (m+1) λo=>Nn o <| bM (m+1) λp=>Nn p<|bM ((h.fdiv (2^(min o.toNat IntKind.i64.bits)))*2^(min p.toNat IntKind.i64.bits)) λq=>bX (λr s=>If r (bM (m+1) λt=>l t s) (ZB.c a m h s λu=>Nn m<|bM ((1:Int)*2^(min m.toNat IntKind.i64.bits)) λv=>bM (h+v) λw=>Nn m<|bM ((1:Int)*2^(min m.toNat IntKind.i64.bits)) λx=>bM (i-x) λy=>g w y u)) λz=>If (q==h) (bM (m+1) λaa=>Nn aa<|bM ((1:Int)*2^(min aa.toNat IntKind.i64.bits)) λab=>z (decide (ab<=i)) n) (z false n)) (e j)
theorem Ys.o {a b c d e}(f:Ys.v a b c d e):Ys.c a b c d e:=Wa Tryz.func301 (x:=Ys.h) (R0 f)
def XL.h:Hn:=.q .o3 (.q (.q .o6 (.k (.loop [(15,.I)] (.q .o1 (.q (.c .l .l) (.q (.k (.q .o5 (.q .o6 (.q .o3 (.c (.q .o5 .l) .l))))) .o2)))))) (.q .o3 .l))
def XL.v (a:R2)(b:Int)(c:Hp)(d:Int->Int->Bool->Hp->Prop):Prop:=bF a 1 c λf=>Yf [bO] (λg=>g 0 c) λh (i:Int) j=>If (i<((f.len:Nat):Int)) (Ix f.a f.len i 1 λk=>lJ k j λl=>Nn i <| Nn i<|bM ((b.fdiv (2^(min i.toNat IntKind.i64.bits)))*2^(min i.toNat IntKind.i64.bits)) λm=>Lk .i64 .b l m j λn=>If (n.getD false) (d i m true j) (bM (i+1) λo=>h o j)) (d 0 0 false j)
theorem XL.o {a b c d}(e:XL.v a b c d):XL.c a b c d:=Wa Tryz.func308 (x:=XL.h) (R0 e)
def ZB.h:Hn:=.q (.k (.loop [(1,.I),(2,.I)] (.q (.q (.cU (.quiet [.op,.op,.op,.op,.op,.op,.op,.op,.op,.cX true 12 (RI.ops 12)])) (.c .l .l)) (.k (.q (.cU (.tail 11 (RI.ops 11) [.op])) (.q .o8 .o3)))))) .o9
def ZB.v (a:R2)(b c:Int)(d:Hp)(e:aP):Prop:=Yf [bO,bO] (λf=>f b c d) λg (h:Int) (i:Int) j=>bM (h+1) λk=>bF a 1 j λm=>bX (λn o=>If n (bF a 1 o λq=>Ix q.a q.len h 1 λr=>lJ r o λs=>Nn h<|bM ((1:Int)*2^(min h.toNat IntKind.i64.bits)) λt=>mj .i64 .b s (bits .xor .i64 i t) o λu=>bM (h+1) λv=>Nn v <| bM (h+1) λw=>Nn w<|bM ((i.fdiv (2^(min v.toNat IntKind.i64.bits)))*2^(min w.toNat IntKind.i64.bits)) λx=>bM (h+1) λy=>g y x u) (bF a 1 o λaa=>Ix aa.a aa.len h 1 λab=>lJ ab o λac=>kQ .i64 .b ac i true o λad=>e ad)) λae=>If (k<((m.len:Nat):Int)) (bF a 1 j λag=>Ix ag.a ag.len h 1 λah=>lJ ah j λai=>Nn h<|bM ((1:Int)*2^(min h.toNat IntKind.i64.bits)) λaj=>Lk .i64 .b ai (bits .xor .i64 i aj) j λak=>ae (ak.getD false) j) (ae false j)
theorem ZB.o {a b c d e}(f:ZB.v a b c d e):ZB.c a b c d e:=Wa Tryz.func325 (x:=ZB.h) (R0 f)
end Go.Proofs
namespace Go.Vc
open Go
variable {ro:Option Nat}{m0:Nat}
def Fw (ro:Option Nat):Fence:={Fence.wide with round:=ro}
theorem Ji {P:Program}{f:Nat}{args:Array Value}{w:World}{R:Ending->World->Prop}(h:Calls P f args w R):CallsIn (Fw ro) m0 P f args w R:=by
 cases ro with
 | none=>exact callsIn_wide.2 h
 | some l=>exact CallsIn.inRound l (callsIn_wide.2 h)
theorem L7 {P:Program}{ρ:Operand->Value}{o:Oper}{w:World}{K:Value->Hp->Prop}(h:Kt P (execOp ρ o) w K):∀c,o.op≠.defer c:=by
 intro c hc;have key:∀(s:Sem Deferred) r,((do pure (Next.defer (←s)):Sem Next).run P w=.ok r w->∃d,r=.defer d)/\(∀w',(do pure (Next.defer (←s)):Sem Next).run P w=.ok r w'->∃d,r=.defer d):=by
  intro s r;have:∀w',(do pure (Next.defer (←s)):Sem Next).run P w=.ok r w'->∃d,r=.defer d:=by
   intro w' hr;rw[Sem.run_bind]at hr;cases hs:s.run P w with
   | ok d w2=>
    rw[hs]at hr;simp at hr;exact⟨d,hr.1.symm⟩
   | halt x w2=>
    rw[hs]at hr;simp at hr
  exact⟨this w,this⟩
 have a:execOp ρ o=(do pure (Next.defer (←resolve ρ c o.type)):Sem Next):=by unfold execOp;rw[hc]
 rw[a]at h;rcases h with⟨v,w',hr,_⟩|⟨w',hr,_⟩|⟨f,args,rs,R,hr,_⟩
 ·obtain⟨d,hd⟩:=(key _ _).2 w' hr;cases hd
 ·obtain⟨d,hd⟩:=(key _ _).2 w' hr;cases hd
 ·obtain⟨d,hd⟩:=(key _ _).2 w hr;cases hd
theorem Kt.uponIn {P:Program}{o:Oper}{a:Act}{w:World}{K:Value->Hp->Prop}{next:Act->World->Prop}{Q:Exit->Act->World->Prop}
 (h:Kt P (execOp a.eval o) w K) (hn:∀v w',Xx w w'->K v w'.heap->next (a.put o.dst v) w'):o.wpIn (Fw ro) m0 P a w next Q:=by
 refine⟨λ_ _=>trivial,?_⟩;rw[Oper.semAt_eq _ _ _ (L7 h)];rcases h with⟨v,w',hr,b,hK⟩|⟨w',hr,b,hK⟩|⟨f,args,rs,R,hr,hc,hK⟩
 ·rw[hr];exact hn _ _ b hK
 ·rw[hr];exact hn _ _ b hK
 ·rw[hr];refine⟨λh=>by simp[Fw,Fence.wide]at h,Ji ((hc w rfl).mono λe w' ⟨b,vs,g,d⟩=>?_)⟩;subst g;exact hn _ _ b (hK _ _ d)
theorem EX {P:Program}{N:Nat}{ops:Array Oper}{Q:Exit->Act->World->Prop}{tail:List Oper}{w:World}:∀{os:List Oper} {ρ:Env} {a:Act},U3 N ops os ρ=true->Fits N ρ a →
 (∀a',Fits N (ρ.eA (os.filterMap (·.dst))) a'->wpListIn (Fw ro) m0 P ops Q tail a' w)->wpListIn (Fw ro) m0 P ops Q (os++tail) a w
 | [],ρ,a,_,hf,h=>h a (hf.weaken (xM _ _))
 | o::os,ρ,a,hs,hf,h=>by
  simp only[U3,zF]at hs;obtain⟨h1,h2,h3⟩:=hs;have p:=Vw hf h1;simp only[lN,wpListIn,p];refine⟨λ_ _=>trivial,?_⟩;refine EX h3 (hf.put h2 _) λa' j=>h a' (j.weaken λi v b=>?_);simp only[Env.eA]at b ⊢;cases hc:(List.filterMap (·.dst) (o::os)).contains i
  ·rw[hc]at b;simp only[cond_false]at b;have g:(List.filterMap (·.dst) os).contains i=false:=by
    cases hd:o.dst<;>simp_all
   have m:∀d,o.dst=some d->i≠d:=by
    intro d hd;simp_all
   rw[g];simp only[cond_false];cases hd:o.dst with
   | none=>exact b
   | some d=>
    have:=m d hd;simp only[Env.iq,Env.put];have:Nat.beq i d=false:=by
     cases hb:Nat.beq i d
     ·rfl
     ·exact absurd (j9 hb) this
    rw[this];exact b
  ·rw[hc]at b;cases b
theorem Vt {P:Program}{N:Nat}{ops:Array Oper}{Q:Exit->Act->World->Prop}:∀(n:Nat) {hs:List RI} {os:List Oper} {tail:List Oper} {ρ:Env} {a:Act} {w:World} {K:Env->Hp->Prop},
 eJ P N ops n hs os ρ w.heap K->Fits N ρ a->(∀ρ' a' w',Fits N ρ' a'->Xx w w'->Ue os ρ ρ'->K ρ' w'.heap->wpListIn (Fw ro) m0 P ops Q tail a' w')->wpListIn (Fw ro) m0 P ops Q (os++tail) a w
 | 0,_,_,_,_,_,_,_,h,_,_=>(by simp only[eJ]at h)
 | n+1,[],[],tail,ρ,a,w,K,h,hf,hK=>by
  simp only[eJ]at h;exact hK ρ a w hf (.refl _) (λ_ _ _ h=>h) h
 | n+1,[],o::os,tail,ρ,a,w,K,h,hf,hK=>(by simp only[eJ]at h)
 | n+1,.op::hs,[],tail,ρ,a,w,K,h,hf,hK=>(by simp only[eJ]at h)
 | n+1,.op::hs,o::os,tail,ρ,a,w,K,h,hf,hK=>by
  simp only[eJ]at h;rw[WJ]at h;obtain⟨hc,h⟩:=h;simp only[zF]at hc;have H:=ZK hf hc.1;simp only[lN,wpListIn,H,zT];refine Kt.uponIn (Ha hf.ev o h) λv w' E j=>?_;exact Vt n j (hf.put hc.2 v) λρ' a' A g p F s=>hK ρ' a' A g (E.trans p) F.cons s
 | n+1,.it ki c::hs,[],tail,ρ,a,w,K,h,hf,hK=>(by simp only[eJ]at h)
 | n+1,.it ki c::hs,o::os,tail,ρ,a,w,K,h,hf,hK=>by
  simp only[eJ]at h;rw[WJ]at h;obtain⟨hc,h⟩:=h;simp only[zF]at hc;have H:=ZK hf hc.1;simp only[lN,wpListIn,H,zT];refine Kt.uponIn (Jf hf.ev o h) λv w' E j=>?_;exact Vt n j (hf.put hc.2 v) λρ' a' A g p F s=>hK ρ' a' A g (E.trans p) F.cons s
 | n+1,.cX and m inner::hs,os,tail,ρ,a,w,K,h,hf,hK=>by
  simp only[eJ]at h;split at h
  case h_2=>exact h.elim
  rename_i pk rest hdrop;split at h
  case h_2=>exact h.elim
  rename_i c x y d hop hd;split at h
  case h_2=>exact h.elim
  rename_i b hb;rw[WJ]at h;obtain⟨hc,J,hJ,h⟩:=h;simp only[zF]at hc;obtain⟨M,G,aa,ab,C⟩:=hc;have hdN':qX N pk.dst=true:=by rw[hd];exact M
  have Z:os++tail=os.take m++(pk::rest++tail):=by
   rw[←hdrop,←zl,ot]
  rw[Z];have u:∀(r b':Bool) (z:Operand) a' w',b=b'->(bif b' then x else y)=z->Fits N (ρ.eA ((os.take m).filterMap (·.dst))) a'->Xx w w'->J r w'.heap->Region.wanted pk (yielded ops a'.tmps)=true →
   a'.eval (.tmp c)=.bool b'->a'.eval z=.bool r->wpListIn (Fw ro) m0 P ops Q (pk::rest++tail) a' w':=by
   intro r b' z a' w' e ez g E L H D hez;simp only[lN,wpListIn,H,zT];refine Kt.uponIn (K:=λv h'=>v=.bool r/\h'=w'.heap) (E0 hop D (by rw[ez];exact hez) ⟨rfl,rfl⟩) λv A p j=>?_;obtain⟨rfl,hh⟩:=j;have Y:=g.put (d:=some d) M (.bool r);rw[hd];have U:=hJ _ _ L;rw[←hh]at U;exact Vt n U Y λρ' W w3 V S F s=>hK ρ' W w3 V ((E.trans p).trans S) (Ue.cX hd hdrop F) s
  have run:∀(b':Bool) (z:Operand),b=b'->(bif b' then x else y)=z →
   eJ P N ops n inner (os.take m) (ρ.put c (.bool b')) w.heap (λρ' h'=>fT (oC ops pk ρ'&&sO ρ' c b') (UX ρ' z λr=>J r h'))->wpListIn (Fw ro) m0 P ops Q (os.take m++(pk::rest++tail)) a w:=by
   intro b' z e ez hseg;refine Vt n hseg (hf.lit hb e) λρ' a' w' g E F j=>?_;rw[WJ]at j;simp only[zF]at j;obtain⟨⟨hg,X⟩,j⟩:=j;obtain⟨r,hr,L⟩:=Vg j;exact u r b' z a' w' e ez (g.wu hb e F) E L (ZK g hg) (g.ev _ _ (Hc X)) (g.ev _ _ hr)
  have B:∀(b':Bool),b=b'->b' = !and->J (!and) w.heap->wpListIn (Fw ro) m0 P ops Q (os.take m++(pk::rest++tail)) a w:=by
   intro b' e eb L;subst eb;refine EX C (hf.lit hb e) λa' g=>?_;have R:Fits N (ρ.eA ((os.take m).filterMap (·.dst))) a':=g.wu (ρ':=(ρ.put c (.bool (!and))).eA ((os.take m).filterMap (·.dst))) hb e (λi hi v hv=>by simp only[Env.eA,hi];exact hv);have D:=g.ev (.tmp c) _ (Hc ab);refine u (!and) (!and) (bif (!and)then x else y) a' w e rfl R (.refl _) L (ZK R aa) D ?_;refine Df ?_ _ (λv=>rfl);cases and<;>exact G
  cases and
  ·simp only[cond_false]at h;cases b
   ·exact run false y rfl rfl (h.f rfl)
   ·exact B true rfl rfl (h.t rfl)
  ·simp only[cond_true]at h;cases b
   ·exact B false rfl rfl (h.f rfl)
   ·exact run true x rfl rfl (h.t rfl)
end Go.Vc
namespace Go.Vc
open Go
variable {ro:Option Nat}{m0:Nat}{P:Program}
def Act.wd (a:Act)(ds:List Deferred):Act:={a with defers:=ds}
theorem tJ (a:Act)(ds:List Deferred)(d:Option Nat)(v:Value):(Act.wd a ds).put d v=Act.wd (a.put d v) ds:=by cases d<;>rfl
theorem DY (a:Act)(d e:List Deferred):Act.wd (Act.wd a d) e=Act.wd a e:=rfl
theorem Uu {a:Act}{ds:List Deferred}(h:a.defers=ds):Act.wd a ds=a:=by subst h;rfl
def jP (P:Program)(o:Oper):Bool:=match o.op with
 | .call c=>match c.callee with
  | .value (.func f)=>Uz P f
  | _=>false
 | .move _ | .assign _ | .alloc _ | .box _ _ | .build _ _ | .buildSlice _ _ _ | .load _ _ | .store _ _ _ | .binOp _ _ _ _ _ | .unOp _ _ _ | .fieldAddr _ _ _ | .indexAddr _ _ _ | .lookup _ _ _ _ | .mapUpdate _ _ _ _ | .extract _ _ | .nilCheck _ | .pick _ _ _=>true
 | _=>false
theorem T7 {s:Sem Value}{w w':World}{r:Next}(h:(do pure (Next.value (←s)):Sem Next).run P w=.ok r w'):∃v,r=.value v:=by
 rw[Sem.run_bind]at h;cases hs:s.run P w with
 | ok d w2=>rw[hs]at h;simp at h;exact⟨d,h.1.symm⟩
 | halt x w2=>rw[hs]at h;simp at h
theorem Rx {s:Sem Unit}{w w':World}{r:Next}(h:(do s;pure Next.skip:Sem Next).run P w=.ok r w'):r=.skip:=by
 rw[Sem.run_bind]at h;cases hs:s.run P w with
 | ok d w2=>rw[hs]at h;simp at h;exact h.1.symm
 | halt x w2=>rw[hs]at h;simp at h
def NU (r:Next):Prop:=(∃v,r=.value v)\/r=.skip\/∃f args,r=.enter f args
theorem BY {α:Type}{s:Sem α}{f:α->Sem Next}{w w':World}{r:Next}(h:(s >>= f).run P w=.ok r w'):∃x w2,(f x).run P w2=.ok r w':=by
 rw[Sem.run_bind]at h;cases hs:s.run P w with
 | ok d w2=>rw[hs]at h;exact⟨d,w2,h⟩
 | halt x w2=>rw[hs]at h;simp at h
theorem yA {x r:Next}{w w':World}(h:(pure x:Sem Next).run P w=.ok r w'):r=x:=by rw[Sem.run_pure]at h;cases h;rfl
theorem Ax {r:Next}{w w':World}(h:(runtimePanic .nilDeref:Sem Next).run P w=.ok r w'):False:=by simp[runtimePanic,goPanic,Sem.run,go_sem]at h
theorem Wnp {a:Act}{o:Oper}{w w':World}{r:Next}(hk:jP P o=true)(h:(execOp a.eval o).run P w=.ok r w'):NU r:=by
 unfold jP at hk;unfold execOp at h;cases ho:o.op<;>rw[ho]at hk h<;>simp only at hk h<;>first
  | exact .inl (T7 h)
  | exact .inr (.inl (Rx h))
  | cases hk
  | skip
 case move x=>rw[Sem.run_pure]at h;cases h;exact .inl ⟨_,rfl⟩
 case assign x=>rw[Sem.run_pure]at h;cases h;exact .inl ⟨_,rfl⟩
 case pick c x y=>
  rw[Sem.run_bind]at h;cases hs:(asBool (a.eval c)).run P w with
  | ok d g=>rw[hs]at h;simp at h;exact .inl ⟨_,h.1.symm⟩
  | halt x g=>rw[hs]at h;simp at h
 case call c=>
  obtain⟨callee,args,b⟩:=c;simp only at hk h;split at hk
  ·rename_i f;have i:=VZ hk (args.map a.eval) w;have j:(do let d ←resolve a.eval {callee:=.value (.func f),args:=args,argTypes:=b} o.type;invoke d.target d.args:Sem Next).run P w=(callFunc f (args.map a.eval)).run P w:=by
    simp[resolve,Act.eval,Deferred.ofValue,invoke]
   rw[j,i]at h;cases h;exact .inr (.inr ⟨_,_,rfl⟩)
  ·cases hk
 case nilCheck x=>
  split at h
  ·exact(Ax h).elim
  ·exact(Ax h).elim
  ·exact(Ax h).elim
  ·split at h
   ·exact(Ax h).elim
   ·obtain⟨y,g,h⟩:=BY h;obtain⟨z,m,h⟩:=BY h;split at h
    ·obtain⟨y,p,h⟩:=BY h;exact .inl ⟨_,yA h⟩
    ·exact .inl ⟨_,yA h⟩
   ·exact .inl ⟨_,yA h⟩
  ·exact .inl ⟨_,yA h⟩
theorem Ev {o:Oper}{a:Act}{w:World}{ds:List Deferred}{next next':Act->World->Prop}{Q Q':Exit->Act->World->Prop}(hk:jP P o=true)(h:o.wp P (Act.wd a []) w next Q')
 (hn:∀a' w',next a' w'->a'.defers=[]->next' (Act.wd a' ds) w') (hp:∀c a w,¬Q' (.panic c) a w) (ho:∀a w,¬Q' .outgrown a w):o.wpIn (Fw ro) m0 P (Act.wd a ds) w next' Q:=by
 have i:∀c,o.op≠.defer c:=λc j=>by unfold jP at hk;rw[j]at hk;cases hk
 refine⟨λ_ _=>trivial,?_⟩;rw[Oper.semAt_eq _ _ _ i];unfold Oper.wp at h;have m:(execOp (Act.wd a []).eval o)=execOp (Act.wd a ds).eval o:=rfl;rw[m]at h;have hd:∀v,((Act.wd a []).put o.dst v).defers=[]:=λv=>by rw[tJ];rfl
 have d:∀v,Act.wd ((Act.wd a []).put o.dst v) ds=(Act.wd a ds).put o.dst v:=λv=>by rw[tJ,tJ,DY]
 cases hr:(execOp (Act.wd a ds).eval o).run P w with
 | ok r w'=>
  rw[hr]at h;rcases Wnp hk hr with⟨v,rfl⟩|rfl|⟨f,args,rfl⟩
  ·rw[Oper.uponIn_value,←d];exact hn _ _ h (hd v)
  ·rw[Oper.uponIn_skip,←d];exact hn _ _ h (hd _)
  ·refine⟨λh=>by simp[Fw,Fence.wide]at h,Ji (Calls.mono h λe g b=>?_)⟩;cases e with
   | returned v=>
    show next' ((Act.wd a ds).put o.dst v) g;rw[←d];exact hn _ _ b (hd v)
   | panicked chain=>exact(hp _ _ _ b).elim
   | outgrown=>obtain⟨p,w0,b⟩:=b;exact(ho _ _ b).elim
 | halt x w'=>
  rw[hr]at h;cases x<;>first
   | exact(hp _ _ _ h).elim
   | exact h.elim
theorem N4 {ops:Array Oper}{i:Nat}{a:Act}{w:World}{ds:List Deferred}{next next':Act->World->Prop}{Q Q':Exit->Act->World->Prop}(hk:∀o∈ops,jP P o=true)(h:wpOp P ops Q' i next (Act.wd a []) w)
 (hn:∀a' w',next (Act.wd a' []) w'->next' (Act.wd a' ds) w') (hp:∀c a w,¬Q' (.panic c) a w) (ho:∀a w,¬Q' .outgrown a w):wpOpIn (Fw ro) m0 P ops Q i next' (Act.wd a ds) w:=by
 unfold wpOp at h;unfold wpOpIn;cases hi:ops[i]? with
 | none=>rw[hi]at h;exact hn _ _ h
 | some o=>
  rw[hi]at h;simp only at h ⊢;have d:yielded ops (Act.wd a []).tmps=yielded ops (Act.wd a ds).tmps:=rfl;rw[d]at h;split
  ·rename_i hw;rw[zC hw]at h;rcases h with h|⟨_,a0,w0,hq⟩
   ·exact Ev (hk o (AJ hi)) h (λa' w' b hd=>hn a' w' (by rw[Uu hd];exact b)) hp ho
   ·exact(ho _ _ hq).elim
  ·rename_i hw;rw[zB hw,tJ]at h;refine⟨λ_ _=>trivial,?_⟩;rw[tJ];exact hn _ _ h
theorem Bl {ops:Array Oper}{ds:List Deferred}{Q Q':Exit->Act->World->Prop}(hk:∀o∈ops,jP P o=true)(hp:∀c a w,¬Q' (.panic c) a w)(ho:∀a w,¬Q' .outgrown a w)(hN:∀a w,Q' .normal (Act.wd a []) w->Q .normal (Act.wd a ds) w) :
 ∀(m:Nat) (listed:Array Bool) (a:Act) (w:World),wpAny P .any ops Q' m listed (Act.wd a []) w->wpAnyIn (Fw ro) m0 P .any ops Q m listed (Act.wd a ds) w
 | 0,listed,a,w,h=>⟨h.1,hN _ _ h.2⟩
 | m+1,listed,a,w,h=>⟨λe=>hN _ _ (h.1 e),λi hi=>N4 hk (h.2 i hi) (λa' w' h'=>Bl hk hp ho hN m _ a' w' h') hp ho⟩
theorem Bw {ops:Array Oper}{ds:List Deferred}{Q Q':Exit->Act->World->Prop}(hp:∀c a w,¬Q' (.panic c) a w)(ho:∀a w,¬Q' .outgrown a w)(hN:∀a w,Q' .normal (Act.wd a []) w->Q .normal (Act.wd a ds) w) :
 ∀(l:List Oper) (a:Act) (w:World),(∀o∈l,jP P o=true)->wpList P ops Q' l (Act.wd a []) w->wpListIn (Fw ro) m0 P ops Q l (Act.wd a ds) w
 | [],a,w,_,h=>hN _ _ h
 | o::l,a,w,hk,h=>by
  have hl:=λm b=>hk m (lg _ b);unfold wpList at h;unfold wpListIn;have j:yielded ops (Act.wd a []).tmps=yielded ops (Act.wd a ds).tmps:=rfl;rw[j]at h;split
  ·rename_i hw;rw[zC hw]at h;rcases h with h|⟨_,a0,w0,hq⟩
   ·exact Ev (hk o lW) h (λg d i hd=>Bw hp ho hN l g d hl (by rw[Uu hd];exact i)) hp ho
   ·exact(ho _ _ hq).elim
  ·rename_i hw;rw[zB hw,tJ]at h;refine⟨λ_ _=>trivial,?_⟩;rw[tJ];exact Bw hp ho hN l _ w hl h
structure lY (ds:List Deferred) (N:Nat) (ρ:Env) (a:Act):Prop where
 f:Fits N ρ (Act.wd a [])
 d:a.defers=ds
theorem lY.ev {ds:List Deferred}{N:Nat}{ρ:Env}{a:Act}(h:lY ds N ρ a):∀x v,ev ρ x=some v->a.eval x=v:=λx v b=>h.f.ev x v b
def Ej (Q:Act->World->Prop):Exit->Act->World->Prop
 | .normal,a,w=>Q a w
 | _,_,_=>False
def oQ (P:Program)(dz:Bool)(ops:Array Oper)(draw:Bool):RH->Bool
 | .seq _=>!draw&&(dz||ops.all (jP P))
 | .held _ _ _=>draw&&ops.all (jP P)
 | .gN _ _ _ _=>draw&&ops.all (jP P)
 | _=>false
theorem Cq {ops:Array Oper}(h:ops.all (jP P)=true):∀o∈ops,jP P o=true:=λo a=>by rw[Array.all_eq_true']at h;exact h o a
theorem Ll {N id:Nat}{ops:Array Oper}{sm:Bool}{C:List Nat}{sh:SH}{K:Env->Hp->Prop}{ρ:Env}{a:Act}{w:World}{Q:Act->World->Prop}
 (hsel:Region.noSelect ops=true) (h:AM P N sm C sh ops ρ w.heap K)
 (hf:Fits N ρ a) (hK:∀ρ' a' w',Fits N ρ' a'->Xx w w'->Ue ops.toList ρ ρ'->K ρ' w'.heap->Q a' w'):wpAny P .any ops (Ej Q) ops.size (Array.replicate ops.size false) a {w with drawn:=w.drawn+1}:=by
 have hd:Xx w {w with drawn:=w.drawn+1}:=⟨rfl,rfl,rfl,zD _⟩;have e:Ej Q=λe a w=>match e with | .normal=>Q a w|_=>False:=by funext e a w;cases e<;>rfl
 rw[e];cases sm
 ·exact UC _ _ _ _ (Qy (S:=λ_=>True) (w:={w with drawn:=w.drawn+1}) (Qn:=Q) hsel (λ_ _=>trivial) 400 ops.size h hf (im.start ops) (.inl trivial) λρ' a' w' b g d i=>hK ρ' a' w' b (hd.trans g) d i)
 ·obtain⟨S,j,h⟩:=h;exact UC _ _ _ _ (Qy (S:=S) (w:={w with drawn:=w.drawn+1}) (Qn:=Q) hsel (λe=>by cases e) 400 ops.size h hf (im.start ops) (.inl j) λρ' a' w' b g d i=>hK ρ' a' w' b (hd.trans g) d i)
theorem NH {N id:Nat}{r:RH}{ops:Array Oper}{draw:Bool}{ρ:Env}{a:Act}{w:World}{K:Env->Hp->Prop}{Q:Exit->Act->World->Prop}{ds:List Deferred}
 (h:m4 P N r ops draw ρ w.heap K) (ho:oQ P ds.isEmpty ops draw r=true) (hf:lY ds N ρ a) (hK:∀ρ' a' w',lY ds N ρ' a'->Xx w w'->K ρ' w'.heap->Q .normal a' w'):(Code.region id ops draw).wpIn (Fw ro) m0 P Q a w:=by
 have G:Act.wd (Act.wd a []) ds=a:=by rw[DY];exact Uu hf.d
 have g:∀ρ' a' w',Fits N ρ' a'->Xx w w'->K ρ' w'.heap->Q .normal (Act.wd a' ds) w':=λρ' a' w' b i j=>hK ρ' _ w' ⟨by rw[DY,Uu b.defers];exact b,rfl⟩ i j;unfold m4 at h;split at h
 ·rename_i B;simp only[oQ,xJ,qT,nB]at ho;refine wpIn_region_list ?_;rcases ho with ho|ho
  ·have u:ds=[]:=by cases ds<;>simp at ho;rfl
   subst u;have z:Act.wd a []=a:=G;rw[←z];have:=Vt (ro:=ro) (m0:=m0) (Q:=Q) (tail:=[]) 400 h hf.f λρ' a' w' b i s j=>by
    have:=g ρ' a' w' b i j;rw[Uu b.defers]at this;exact this
   simpa using this
  ·have:=Ve (Q:=Ej λa' w'=>Q .normal (Act.wd a' ds) w') (tail:=[]) 400 h hf.f λρ' a' w' b i s j=>g ρ' a' w' b i j;have m:=Bw (ro:=ro) (m0:=m0) (ds:=ds) (Q:=Q) (ops:=ops) (λ_ _ _ h=>h) (λ_ _ h=>h) (λa w h=>h) ops.toList a w (λo A=>Cq ho o (by simpa using A)) (by simpa using this);rw[Uu hf.d]at m;exact m
 ·cases ho
 ·cases ho
 ·rename_i sm sh;rw[WJ]at h;simp only[zF]at h;simp only[oQ,qT]at ho;refine wpIn_region_any h.1.1 ?_;have y:=Ll (id:=id) (Q:=λa' w'=>Q .normal (Act.wd a' ds) w') h.1.2 h.2 hf.f λρ' a' w' b i s j=>g ρ' a' w' b i j;have m:=Bl (ro:=ro) (m0:=m0) (ds:=ds) (Q:=Q) (Cq ho) (λ_ _ _ h=>h) (λ_ _ h=>h) (λa w h=>h) _ _ _ _ y;rw[Uu hf.d]at m;exact m
 ·rename_i sm js sh;rw[WJ]at h;simp only[zF]at h;simp only[oQ,qT]at ho;obtain⟨⟨F,p,E⟩,J,D,h⟩:=h;refine wpIn_region_any F ?_;have y:=Ll (id:=id) (Q:=λa' w'=>Q .normal (Act.wd a' ds) w') p h hf.f λρ' a' w' b i s j=>by
   obtain⟨vs,C,B⟩:=Hz j;have x:=UD (B.mono D);exact g _ a' w' (KV js (Uj b s) b C) i x
  have m:=Bl (ro:=ro) (m0:=m0) (ds:=ds) (Q:=Q) (Cq ho) (λ_ _ _ h=>h) (λ_ _ h=>h) (λa w h=>h) _ _ _ _ y;rw[Uu hf.d]at m;exact m
 ·exact h.elim
def oc (P:Program)(dz:Bool):Code->Hn->Bool
 | .skip,_=>true
 | .ret,_=>true
 | .exit _,_=>true
 | .region _ ops d,.cU r=>oQ P dz ops d r
 | .seq a b,.seq x y=>oc P dz a x&&oc P dz b y
 | .cond _ a b,.cond x y=>oc P dz a x&&oc P dz b y
 | .block _ b,.block x=>oc P dz b x
 | _,_=>false
theorem KH {N:Nat}{ds:List Deferred}:∀(c:Code) {x:Hn} {Q:Exit->Env->Hp->Prop} {Q':Exit->Act->World->Prop} {ρ:Env} {a:Act} {w:World},
 iK P N c x Q ρ w.heap->oc P ds.isEmpty c x=true->lY ds N ρ a->(∀e ρ' a' w',lY ds N ρ' a'->Xx w w'->Q e ρ' w'.heap->Q' e a' w')->c.wpIn (Fw ro) m0 P Q' a w
 | .skip,x,Q,Q',ρ,a,w,h,ho,hf,hq=>by
  have h':Q .normal ρ w.heap:=by cases x<;>exact h
  exact wpIn_skip (hq _ ρ a w hf (.refl _) h')
 | .ret,x,Q,Q',ρ,a,w,h,ho,hf,hq=>by
  have h':Q .ret ρ w.heap:=by cases x<;>exact h
  exact wpIn_ret (hq _ ρ a w hf (.refl _) h')
 | .exit id,x,Q,Q',ρ,a,w,h,ho,hf,hq=>by
  have h':Q (.exit id) ρ w.heap:=by cases x<;>exact h
  exact wpIn_exit (hq _ ρ a w hf (.refl _) h')
 | .region id ops d,x,Q,Q',ρ,a,w,h,ho,hf,hq=>by
  cases x<;>simp only[iK]at h
  exact NH h ho hf λρ' a' w' b j g=>hq _ ρ' a' w' b j g
 | .seq c1 c2,x,Q,Q',ρ,a,w,h,ho,hf,hq=>by
  cases x<;>simp only[iK]at h
  case seq x y=>
   simp only[oc,zF]at ho;refine wpIn_seq (KH c1 h ho.1 hf λe ρ' a' w' b j g=>?_);cases e
   case normal=>exact KH c2 g ho.2 b λe s p z m r A=>hq e s p z m (j.trans r) A
   all_goals exact hq _ ρ' a' w' b j g
  case kO=>cases ho
 | .cond c c1 c2,x,Q,Q',ρ,a,w,h,ho,hf,hq=>by
  cases x<;>simp only[iK]at h
  simp only[oc,zF]at ho;obtain⟨t,B,h⟩:=Vg h;refine wpIn_cond_split (hf.ev _ _ B) (λe=>?_) (λe=>?_)
  ·exact KH c1 (h.t e) ho.1 hf hq
  ·exact KH c2 (h.f e) ho.2 hf hq
 | .block id c1,x,Q,Q',ρ,a,w,h,ho,hf,hq=>by
  cases x<;>simp only[iK]at h
  refine wpIn_block (KH c1 h ho hf λe ρ' a' w' b j g=>?_);cases e
  case exit i=>
   simp only[wV]at g;simp only[Exit.inBlock];split at g
   ·rename_i e;have u:i=id:=j9 e;rw[zC u];exact hq _ ρ' a' w' b j g
   ·rename_i e;have u:i≠id:=λh=>by subst h;simp at e
    rw[zB u];exact hq _ ρ' a' w' b j g
  all_goals exact hq _ ρ' a' w' b j g
 | .loop ..,x,Q,Q',ρ,a,w,h,ho,hf,hq=>(by cases x<;>cases ho)
 | .scope ..,x,Q,Q',ρ,a,w,h,ho,hf,hq=>(by cases x<;>cases ho)
 | .label ..,x,Q,Q',ρ,a,w,h,ho,hf,hq=>(by cases x<;>cases ho)
 | .rangeFunc ..,x,Q,Q',ρ,a,w,h,ho,hf,hq=>(by cases x<;>cases ho)
 | .goto ..,x,Q,Q',ρ,a,w,h,ho,hf,hq=>(by cases x<;>cases ho)
 | .refuse ..,x,Q,Q',ρ,a,w,h,ho,hf,hq=>(by cases x<;>cases ho)
def HL (P:Program)(l:Nat)(args:List Value)(h:Hp)(R:aO):Prop:=
 ∀w:World,w.heap=h->∃fn tmps asg bd,(Instr.yield l args.toArray).run P w=.ok (.round l fn tmps asg bd) w/\RoundIn Fence.wide 0 P l fn tmps asg bd w λe w'=>Xx w w'/\∃b,e=.returned (.bool b)/\R b w'.heap
def yK (P:Program)(o:Oper)(ρ:Env)(h:Hp)(K:Value->Hp->Prop):Prop:=match o.op with
 | .call c=>match c.callee with
  | .value (.tmp t)=>match ρ t,qJ ρ c.args.toList with
   | some (.func (.yield l) first cap),some args=>fT (first.isEmpty&&cap.isEmpty) (HL P l args h λb h'=>K (.bool b) h')
   | _,_=>False
  | _=>sK P o.op o.type ρ h K
 | _=>sK P o.op o.type ρ h K
theorem Η {ρ:Env}{o:Oper}{a:Act}{w:World}{K:Value->Hp->Prop}{next:Act->World->Prop}{Q:Exit->Act->World->Prop}(hf:∀x v,ev ρ x=some v->a.eval x=v)
 (h:yK P o ρ w.heap K) (hn:∀v w',Xx w w'->K v w'.heap->next (a.put o.dst v) w'):o.wpIn (Fw ro) m0 P a w next Q:=by
 have d:sK P o.op o.type ρ w.heap K->o.wpIn (Fw ro) m0 P a w next Q:=λh=>Kt.uponIn (Ha hf o h) hn
 unfold yK at h;split at h
 ·rename_i c hc;split at h
  ·rename_i t ht;split at h
   ·rename_i l first cap args hρ hargs
    rw[WJ]at h;obtain⟨g,h⟩:=h;simp only[zF,AP]at g;obtain⟨rfl,rfl⟩:=g;have y:∀c,o.op≠.defer c:=λL A=>by rw[hc]at A;cases A
    refine⟨λ_ _=>trivial,?_⟩;rw[Oper.semAt_eq _ _ _ y];obtain⟨F,j,r,E,G,C⟩:=h w rfl;have e1:=Qg hf hargs;have i:c.args.map a.eval=args.toArray:=by apply Array.ext';simpa using e1
    have e2:a.eval (.tmp t)=.func (.yield l) #[] #[]:=hf (.tmp t) _ hρ;have m:(execOp a.eval o).run P w=.ok (.round l F j r E) w:=by
     obtain⟨dst,op,M,pos,z,u⟩:=o;simp only at hc;subst hc;obtain⟨p,s,J⟩:=c;simp only at ht i;subst ht;simpa[execOp,resolve,i,e2,Deferred.ofValue,invoke]using G
    rw[m];refine⟨λh=>by simp[Fw,Fence.wide]at h,?_⟩;refine RoundIn.mono (R:=λe w'=>Xx w w'/\∃b,e=.returned (.bool b)/\K (.bool b) w'.heap) ⟨trivial,λc B _=>C.2 c B (room_wide _)⟩ ?_;rintro e w' ⟨D,b,rfl,H⟩;exact hn _ _ D H
   ·exact h.elim
  ·exact d h
 ·exact d h
def A9 (P:Program)(N:Nat):List Oper->Env->Hp->(Env->Hp->Prop)->Prop
 | [],ρ,h,K=>K ρ h
 | o::os,ρ,h,K=>fT (qX N o.dst&&o.guard.isNone) (yK P o ρ h λv h'=>A9 P N os (ρ.iq o.dst v) h' K)
theorem LG {N:Nat}{ops:Array Oper}{Q:Exit->Act->World->Prop}:∀{os:List Oper} {ρ:Env} {a:Act} {w:World} {K:Env->Hp->Prop},
 A9 P N os ρ w.heap K->Fits N ρ a->(∀ρ' a' w',Fits N ρ' a'->Xx w w'->Ue os ρ ρ'->K ρ' w'.heap->Q .normal a' w')->wpListIn (Fw ro) m0 P ops Q os a w
 | [],ρ,a,w,K,h,hf,hK=>hK ρ a w hf (.refl _) (λ_ _ _ h=>h) h
 | o::os,ρ,a,w,K,h,hf,hK=>by
  simp only[A9]at h;rw[WJ]at h;obtain⟨hc,h⟩:=h;simp only[zF,Option.isNone_iff_eq_none]at hc;have m:Region.wanted o (yielded ops a.tmps)=true:=by simp[Region.wanted,hc.2]
  simp only[wpListIn,m,zT];refine Η hf.ev h λv w' p r=>?_;exact LG r (hf.put hc.1 v) λρ' a' g d b j i=>hK ρ' a' g d (p.trans b) j.cons i
def gY (P:Program)(N:Nat):Code->Hn->(Exit->Env->Hp->Prop)->Env->Hp->Prop
 | .skip,_,Q,ρ,h=>Q .normal ρ h
 | .ret,_,Q,ρ,h=>Q .ret ρ h
 | .exit id,_,Q,ρ,h=>Q (.exit id) ρ h
 | .region _ ops d,.cU r,Q,ρ,h=>m4 P N r ops d ρ h λρ' h'=>Q .normal ρ' h'
 | .region _ ops false,.leaf,Q,ρ,h=>A9 P N ops.toList ρ h λρ' h'=>Q .normal ρ' h'
 | .seq a b,.seq x y,Q,ρ,h=>gY P N a x (vZ (λρ' h'=>gY P N b y Q ρ' h') Q) ρ h
 | .cond c a b,.cond x y,Q,ρ,h=>UX ρ c λt=>If t (gY P N a x Q ρ h) (gY P N b y Q ρ h)
 | .block id b,.block x,Q,ρ,h=>gY P N b x (wV id Q) ρ h
 | .loop b,.loop js x,Q,ρ,h=>fT (js.all λs=>mR (fN b) s.1)
  (Yf (mA js) (λI=>sB js ρ I h) λJ=>lam (mA js) λvs h'=>gY P N b x (vZ (λρ' h''=>sB js ρ' J h'') Q) (iA (ρ.eA (fN b)) js vs) h')
 | _,_,_,_,_=>False
theorem Po {F:Fence}{c:Code}{Q:Exit->Act->World->Prop}{a:Act}{w:World}(I:Nat->Act->World->Prop)(h0:∃n,I n a w)
 (round:∀n a w,I n a w->c.wpIn F m0 P (Exit.then (λa' w'=>∃m,m<n/\I m a' w') Q) a w):(Code.loop c).wpIn F m0 P Q a w:=by
 refine wpIn_loop (λa w=>∃n,I n a w) (λa w=>vv λn=>I n a w) h0 λa w g=>?_;refine wpIn_mono (round _ a w (JE g)) λe a' w' d=>?_;cases e<;>try exact d
 obtain⟨m,i,b⟩:=d;exact⟨⟨m,b⟩,BA (F0 b) i⟩
theorem Vf {N:Nat}:∀(c:Code) {x:Hn} {Q:Exit->Env->Hp->Prop} {Q':Exit->Act->World->Prop} {ρ:Env} {a:Act} {w:World},
 gY P N c x Q ρ w.heap->Fits N ρ a->(∀e ρ' a' w',Fits N ρ' a'->Xx w w'->VB (fN c) ρ ρ'->Q e ρ' w'.heap->Q' e a' w')->c.wpIn (Fw none) m0 P Q' a w
 | .skip,x,Q,Q',ρ,a,w,h,hf,hq=>by
  have h':Q .normal ρ w.heap:=by cases x<;>exact h
  exact wpIn_skip (hq _ ρ a w hf (.refl _) (.refl _ _) h')
 | .ret,x,Q,Q',ρ,a,w,h,hf,hq=>by
  have h':Q .ret ρ w.heap:=by cases x<;>exact h
  exact wpIn_ret (hq _ ρ a w hf (.refl _) (.refl _ _) h')
 | .exit id,x,Q,Q',ρ,a,w,h,hf,hq=>by
  have h':Q (.exit id) ρ w.heap:=by cases x<;>exact h
  exact wpIn_exit (hq _ ρ a w hf (.refl _) (.refl _ _) h')
 | .region id ops d,x,Q,Q',ρ,a,w,h,hf,hq=>by
  cases x
  case cU r=>
   have h':m4 P N r ops d ρ w.heap λρ' h'=>Q .normal ρ' h':=by cases d<;>simpa only[gY]using h
   exact wpIn_wide.2 (Lt h' hf λρ' a' w' b j s g=>hq _ ρ' a' w' b j s g)
  case leaf=>
   cases d<;>simp only[gY]at h
   refine wpIn_region_list (LG h hf λρ' a' w' b j s g=>hq _ ρ' a' w' b j s g)
  all_goals (cases d<;>simp only[gY]at h)
 | .seq c1 c2,x,Q,Q',ρ,a,w,h,hf,hq=>by
  cases x<;>simp only[gY]at h
  refine wpIn_seq (Vf c1 h hf λe ρ' a' w' b j s g=>?_);cases e
  case normal=>exact Vf c2 g b λe ρ'' z A p u E L=>hq e ρ'' z A p (j.trans u) (s.trans E) L
  all_goals exact hq _ ρ' a' w' b j (s.mono λi hi=>kM _ hi) g
 | .cond c c1 c2,x,Q,Q',ρ,a,w,h,hf,hq=>by
  cases x<;>simp only[gY]at h
  obtain⟨t,U,h⟩:=Vg h;refine wpIn_cond_split (hf.ev _ _ U) (λe=>?_) (λe=>?_)
  ·exact Vf c1 (h.t e) hf λe ρ' a' w' b j s g=>hq e ρ' a' w' b j (s.mono λi hi=>kM _ hi) g
  ·exact Vf c2 (h.f e) hf λe ρ' a' w' b j s g=>hq e ρ' a' w' b j (s.mono λi hi=>oF _ hi) g
 | .block id c1,x,Q,Q',ρ,a,w,h,hf,hq=>by
  cases x<;>simp only[gY]at h
  refine wpIn_block (Vf c1 h hf λe ρ' a' w' b j s g=>?_);cases e
  case exit i=>
   simp only[wV]at g;simp only[Exit.inBlock];split at g
   ·rename_i e;have D:i=id:=j9 e;rw[zC D];exact hq _ ρ' a' w' b j s g
   ·rename_i e;have D:i≠id:=λh=>by subst h;simp at e
    rw[zB D];exact hq _ ρ' a' w' b j s g
  all_goals exact hq _ ρ' a' w' b j s g
 | .loop c1,x,Q,Q',ρ,a,w,h,hf,hq=>by
  cases x<;>simp only[gY]at h
  rename_i js x;rw[WJ]at h;obtain⟨G,I,μ,C,R⟩:=h;refine Po (λn a' w'=>∃vs,Fits N (iA (ρ.eA (fN c1)) js vs) a'/\Xx w w'/\Sat (mA js) (G6 (mA js) I μ (· = n)) vs w'.heap) ?_ ?_
  ·obtain⟨vs,M,C⟩:=Hz C;obtain⟨n,K⟩:=Hr μ C;exact⟨n,vs,KV js (hf.weaken (xM _ _)) hf M,.refl _,K⟩
  ·rintro n a' w' ⟨vs,b,j,K⟩;have:=UD (K.mono (R n));have S:=(U5 (fN c1) ρ).trans (Vd (fN c1) js (ρ.eA (fN c1)) vs G);refine Vf c1 this b λe ρ'' z A p u s g=>?_;have y:VB (fN c1) ρ ρ'':=(S.trans s).mono λi hi=>by
    simp only[zM]at hi;rcases hi with(h|h)|h<;>exact h
   cases e
   case normal=>
    obtain⟨J,F,H⟩:=Hz g;obtain⟨m,V,B⟩:=Gr H;exact⟨m,V,J,KV js (Uj p y) p F,j.trans u,B⟩
   all_goals exact hq _ ρ'' z A p (j.trans u) y g
 | .scope ..,x,Q,Q',ρ,a,w,h,hf,hq=>(by cases x<;>simp only[gY]at h)
 | .label ..,x,Q,Q',ρ,a,w,h,hf,hq=>(by cases x<;>simp only[gY]at h)
 | .rangeFunc ..,x,Q,Q',ρ,a,w,h,hf,hq=>(by cases x<;>simp only[gY]at h)
 | .goto ..,x,Q,Q',ρ,a,w,h,hf,hq=>(by cases x<;>simp only[gY]at h)
 | .refuse ..,x,Q,Q',ρ,a,w,h,hf,hq=>(by cases x<;>simp only[gY]at h)
def CQ (P:Program)(f:Nat)(args:Array Value)(h:Hp)(R:aP):Prop:=
 ∀w:World,w.heap=h->∀m,CallsIn Fence.wide m P f args w λe w'=>Xx w w'/\(∃v,e=.returned v)/\R w'.heap
def J9 (P:Program)(fn:Func)(x:Hn)(args:List Value)(R:aP)(h:Hp):Prop:=
 match fn.body with
 | some c=>fT (Nat.ble args.length fn.ntmps&&fn.results.isEmpty) (gY P fn.ntmps c x (λe ρ h=>match e with | .normal=>R h | .ret=>R h|_=>False) (G4 args) h)
 | none=>False
theorem Pd {f:Nat}{fn:Func}{x:Hn}{args:List Value}{R:aP}{h:Hp}(hfn:P.funcs[f]?=some fn)(hk:J9 P fn x args R h):CQ P f args.toArray h R:=by
 intro w hw m;subst hw;unfold J9 at hk;split at hk
 case h_2=>exact hk.elim
 rename_i c hb;rw[WJ]at hk;obtain⟨d,hk⟩:=hk;simp only[zF,AP]at d;have y:args.length<=fn.ntmps:=y9 d.1;refine callsIn_of_wp_marks hfn hb trivial ?_;have b:∀a w,(results fn a).run P w=.ok (.tuple #[]) w:=λa w=>by
  simp[results,d.2]
 refine Vf c hk (ρ:=G4 args) ⟨rfl,by simp;omega,λi v j=>?_⟩ λe A u B s r z p=>?_
 ·simp only[G4]at j;have g:i<args.length:=(cY.1 j).1;rw[ya (by simpa using g)];simpa using j
 ·cases e
  case normal=>
   show LeavesInM _ _ _ _ _ _ u.defers _ _;rw[s.defers];exact⟨_,b _ _,r,⟨_,rfl⟩,p⟩
  case ret=>
   show LeavesInM _ _ _ _ _ _ u.defers _ _;rw[s.defers];exact⟨_,b _ _,r,⟨_,rfl⟩,p⟩
  all_goals exact p.elim
end Go.Vc
namespace Go.Vc
open Go
variable {m0:Nat}{P:Program}
def xR (P:Program)(fv:Fv)(xs:List (List Value))(Kp:aP):Prop:=
 ∀(l:Nat) (J:Nat->Hp->Prop),(∀k h h',J k h->aF h h'->J k h')->(∀k h,J k h->Kp h) →
  (∀k x,xs[k]?=some x->∀h,J k h->HL P l x h λb h'=>b=true/\J (k+1) h') →
  ∀h,J 0 h->CQ P fv.f (#[.func (.yield l) #[] #[]]++fv.captured) h λh'=>J xs.length h'
def CW (P:Program){α:Type}(enc:α->List Value)(fv:Fv)(h:Hp)(round:α->(Hp->Prop)->Hp->Prop)(K:aP):Prop:=
 fv.first = #[]/\Uz P fv.f=true/\∃(xs:List α) (Kp:aP) (I:Nat->Hp->Prop),xR P fv (xs.map enc) Kp/\(∀k s s',I k s->Ext (λb=>b=h.size\/b=h.size+1) s s'->I k s')/\(∀k s,I k s->Kp s)/\I 0 h ∧
  (∀k x,xs[k]?=some x->∀s,I k s->h.size+2<=s.size->round x (λs'=>I (k+1) s'/\s'[h.size]?=s[h.size]?/\s'[h.size+1]?=s[h.size+1]?) s) ∧
  (∀s,I xs.length s->s[h.size]?=some (.deferred (some []))->K s)
def pT:List Nat->List Value->Env->Env
 | p::ps,v::vs,ρ=>pT ps vs (ρ.put p v)
 | _,_,ρ=>ρ
theorem IX {N:Nat}:∀(ps:List Nat) (vs:List Value) {ρ:Env} {t:Array Value},(∀p∈ps,p<N)->Fits N ρ {tmps:=t,defers:=[]}->Fits N (pT ps vs ρ) {tmps:=(ps.zip vs).foldl (λt (x:Nat×Value)=>t.setIfInBounds x.1 x.2) t,defers:=[]}
 | [],vs,ρ,t,_,hf=>by cases vs<;>exact hf
 | p::ps,[],ρ,t,_,hf=>hf
 | p::ps,v::vs,ρ,t,hp,hf=>by
  have h1:=hf.put (d:=some p) (show Nat.blt p N=true by rw[Nat.blt_eq];exact hp p lW) v;exact IX ps vs (λq a=>hp q (lg _ a)) h1
def rX (N:Nat):List Oper->Env->Option Env
 | [],ρ=>some ρ
 | o::os,ρ=>match o.op,o.dst,o.guard with
  | .assign x,some d,none=>match ev ρ x with
   | some v=>bif Nat.blt d N then rX N os (ρ.put d v)else none
   | none=>none
  | _,_,_=>none
def su (N:Nat):Code->Env->Option Env
 | .region _ ops false,ρ=>rX N ops.toList ρ
 | .skip,ρ=>some ρ
 | _,_=>none
theorem Fx {N:Nat}{F:Fence}{ops:Array Oper}{Q:Exit->Act->World->Prop}(hF:∀f,F.fn f):∀{os:List Oper} {ρ ρ':Env} {a:Act} {w:World},rX N os ρ=some ρ'->Fits N ρ a->(∀a',Fits N ρ' a'->Q .normal a' w)->wpListIn F m0 P ops Q os a w
 | [],ρ,ρ',a,w,h,hf,hq=>by cases h;exact hq a hf
 | o::os,ρ,ρ',a,w,h,hf,hq=>by
  unfold rX at h;split at h
  ·rename_i x d hop hd hg;split at h
   ·rename_i v hv;cases hb:Nat.blt d N with
    | false=>rw[hb]at h;cases h
    | true=>
     rw[hb]at h;have hw:Region.wanted o (yielded ops a.tmps)=true:=by simp[Region.wanted,hg]
     simp only[wpListIn,hw,zT];refine⟨λf _=>hF f,?_⟩;rw[Oper.semAt_eq _ _ _ (λc g=>by rw[hop]at g;cases g)];have i:(execOp a.eval o).run P w=.ok (.value v) w:=by
      unfold execOp;rw[hop];simp only;rw[Sem.run_pure,hf.ev x v hv]
     rw[i];have b:=hf.put (d:=some d) hb v;rw[Oper.uponIn_value,hd];exact Fx hF h b hq
   ·cases h
  ·cases h
theorem Sd {N:Nat}{F:Fence}{c:Code}{Q:Exit->Act->World->Prop}(hF:∀f,F.fn f){ρ ρ':Env}{a:Act}{w:World}(h:su N c ρ=some ρ')(hf:Fits N ρ a)(hq:∀a',Fits N ρ' a'->Q .normal a' w):c.wpIn F m0 P Q a w:=by
 unfold su at h;split at h
 ·exact wpIn_region_list (Fx hF h hf hq)
 ·cases h;exact wpIn_skip (hq a hf)
 ·cases h
def wM (P:Program)(N n:Nat){α:Type}(enc:α->List Value)(fv:Fv)(ps:Array Nat)(asg bd:Code)(x:Hn)(ρ:Env)(h:Hp)(K:aP):Prop:=
 fT (Nat.beq ps.toList.length n&&(ps.toList.all (λp=>Nat.blt p N)&&oc P true bd x))
  (CW P enc fv h (λy J s=>match su N asg (pT ps.toList (enc y) ρ)with
   | some ρ'=>iK P N bd x (λe _ s'=>match e with | .normal=>J s'|_=>False) ρ' s
   | none=>False) K)
theorem GE {w:World}{o:Obj}{b:Nat}(h:b<w.heap.size):(w.alloc o).heap[b]?=w.heap[b]? := by
 show(w.heap.push o)[b]?=w.heap[b]?;rw[xl,zB O]
theorem Hg (w:World)(l:Nat)(o:Obj):Xx w (w.putObj l o):=⟨rfl,rfl,rfl,by simp⟩
theorem Dh {w:World}{l:Nat}{o:Obj}{F:Nat->Prop}(hl:F l):Ext F w.heap (w.putObj l o).heap:=⟨by simp,λb d a=>World.putObj_heap_other λe=>a (by rw[e];exact hl)⟩
theorem Nb {N n:Nat}{α:Type}{enc:α->List Value}(henc:∀y,(enc y).length=n){fv:Fv}{g:Operand}{ps:Array Nat}{asg bd:Code}{x:Hn}{ρ:Env}{a:Act}{w:World}{K:aP}{Q:Exit->Act->World->Prop}
 (hg:a.eval g=.func (.func fv.f) fv.first fv.captured) (hf:Fits N ρ a) (h:wM P N n enc fv ps asg bd x ρ w.heap K)
 (hQ:∀w',Xx w w'->w'.heap[w.heap.size]?=some (.deferred (some []))->K w'.heap->Q .normal {a with defers:={target:=.collected w.heap.size,args := #[]}::a.defers} w'):(Code.rangeFunc g ps asg bd).wpIn Fence.wide m0 P Q a w:=by
 unfold wM at h;rw[WJ]at h;obtain⟨hc,B,D,xs,Kp,I,Y,m,ac,h0,z,L⟩:=h;simp only[zF,kx]at hc;obtain⟨hn,ae,af⟩:=hc;have R:∀y,(enc y).length=ps.size:=λy=>by
  rw[henc y,←j9 hn];simp
 rw[B]at hg;refine wpIn_rangeFunc ?_;intro fn hfn;obtain⟨i,d⟩:∃i:LoopState->Option Code->Loop,i=λst pe=>{state:=st,pending:=pe,fn,tmps:=a.tmps,params:=ps,assign:=asg,body:=bd,defers:=w.heap.size}:=⟨_,rfl⟩;obtain⟨W1,j⟩:∃W1,(w.alloc (.deferred (some []))).alloc (.loop (i .ready none))=W1:=⟨_,rfl⟩;have hsz:W1.heap.size=w.heap.size+2:=by rw[←j];simp
 have Z:W1.heap[w.heap.size+1]?=some (.loop (i .ready none)):=by
  rw[←j];have:=World.alloc_heap_new (w.alloc (.deferred (some []))) (.loop (i .ready none));rwa [World.size_alloc]at this
 have ab:W1.heap[w.heap.size]?=some (.deferred (some [])):=by
  rw[←j];exact(GE aA).trans (World.alloc_heap_new w _)
 have ad:aF w.heap W1.heap:=⟨O,λb u _=>by
  rw[←j];exact(GE aE).trans (GE u)⟩
 have io1:Xx w W1:=⟨by rw[←j];rfl,by rw[←j];rfl,by rw[←j];rfl,O⟩;have X:∀{s s':Hp},aF s s'->Ext (λb=>b=w.heap.size\/b=w.heap.size+1) s s':=λe=>⟨e.1,λb u _=>e.2 b u id⟩;have bS:∀{s s':Hp} {b:Nat} {o:Obj},aF s s'->s[b]?=some o->s'[b]?=some o:=λe u=>(e.2 _ (kg.1 u).1 id).trans u;refine⟨w.heap.size+1,[{target:=.collected w.heap.size,args := #[]}],W1,{target:=.fn (.func fv.f) fv.captured,args := #[.func (.yield (w.heap.size+1)) #[] #[]]},W1,fv.f,
  #[.func (.yield (w.heap.size+1)) #[] #[]]++fv.captured,W1,?_,?_,λ_ _=>trivial,?_,λh=>by simp[Fence.wide]at h,?_⟩
 ·rw[←j,d];exact run_enterLoop_outer _ _ _ _ _
 ·simp only[resolve,hg];simp[go_sem]
 ·simp only[invoke];exact VZ D _ _
 ·refine(Y (w.heap.size+1) (λk s=>I k s/\s[w.heap.size+1]?=some (.loop (i .ready none))/\s[w.heap.size]?=some (.deferred (some [])))
   (λk s s' S e=>⟨m k s s' S.1 (X e),bS e S.2.1,bS e S.2.2⟩) (λk s S=>ac k s S.1) ?_ W1.heap ⟨m 0 _ _ h0 (X ad),Z,ab⟩ W1 rfl (m0-1)).mono ?_
  ·rintro k xv hx s ⟨hI,hl,hk⟩ W rfl;rw[zZ,oH]at hx;obtain⟨y,hy,rfl⟩:=hx;have hlt:w.heap.size+1<W.heap.size:=(kg.1 hl).1;have M:=run_yield (P:=P) (args:=(enc y).toArray) hl (by rw[d];simpa using R y);rw[d]at M;refine⟨fn,_,asg,bd,M,roundIn_of_wpIn trivial ?_⟩;have hr:=z k y hy;cases hasg:su N asg (pT ps.toList (enc y) ρ)with
   | none=>
    have:=hr W.heap hI O;simp only[hasg]at this
   | some ρ'=>
    have aa:Fits N (pT ps.toList (enc y) ρ) {tmps:=(ps.zip (enc y).toArray).foldl (λtmps (t,a)=>tmps.setIfInBounds t a) a.tmps,defers:=[]}:=by
     have h1:=IX ps.toList (enc y) (t:=a.tmps) (λp hp=>by have:=ae p hp;rwa [Nat.blt_eq]at this) (by
      have:=hf;exact⟨rfl,this.size,this.at_⟩)
     have h2:(ps.zip (enc y).toArray).foldl (λtmps (t,a)=>tmps.setIfInBounds t a) a.tmps=(ps.toList.zip (enc y)).foldl (λt (x:Nat×Value)=>t.setIfInBounds x.1 x.2) a.tmps:=by
      rw[←Array.foldl_toList];simp
     rw[h2];exact h1
    refine Sd (F:=Fence.wide.inRound (w.heap.size+1)) (λf=>trivial) hasg aa λa1 H=>⟨_,run_beginRound hl (by rw[d]),?_⟩;have G:(W.putObj (w.heap.size+1) (.loop {i .ready none with state:=.busy})).heap[w.heap.size+1]?=some (.loop {i .ready none with state:=.busy}):=World.putObj_heap_same hlt;have r:(W.putObj (w.heap.size+1) (.loop {i .ready none with state:=.busy})).heap[w.heap.size]?=some (.deferred (some [])):=(World.putObj_heap_other O).trans hk;have u:=hr (W.putObj (w.heap.size+1) (.loop {i .ready none with state:=.busy})).heap (m k _ _ hI (Dh (.inr rfl))) (by rw[World.putObj_size];omega);simp only[hasg]at u;refine KH (ro:=some (w.heap.size+1)) (m0:=0) (ds:=[]) bd u af ⟨by rw[Uu H.defers];exact H,H.defers⟩ λe ρ2 a2 w2 hf2 E hq=>?_;cases e
    case normal=>
     obtain⟨A,V,J⟩:=hq;rw[G]at J;rw[r]at V;have C:=run_endRound (P:=P) none J;refine⟨_,_,C,((Hg _ _ _).trans E).trans (Hg _ _ _),true,rfl,rfl,m _ _ _ A (Dh (.inr rfl)),?_,(World.putObj_heap_other O).trans V⟩;rw[World.putObj_heap_same (kg.1 J).1,d];rfl
    all_goals exact hq.elim
  ·rintro e W2 ⟨E,⟨v,rfl⟩,A,G,r⟩;have C:=run_endLoop (P:=P) G (by rw[d];simp);refine⟨none,_,by rw[d]at C;exact C,?_⟩;have hlt2:=(kg.1 r).1;rw[zk]at A;have U:∀o,(W2.putObj (w.heap.size+1) o).heap[w.heap.size]?=some (.deferred (some [])):=λo=>(World.putObj_heap_other O).trans r;exact hQ _ ((io1.trans E).trans (Hg _ _ _)) (U _) (L _ (m _ _ _ A (Dh (.inr rfl))) (U _))
def wb (D:Nat)(s:Hp)(K:aP):Prop:=s[D]?=some (.deferred (some []))/\K (s.setIfInBounds D (.deferred none))
def qm (P:Program)(fn:Func)(rs:List SK)(R:eX (fo rs))(D:Nat):Exit->Env->Hp->Prop
 | .normal,ρ,h=>wb D h λh'=>mn P fn.results.toList rs ρ h' λvs=>sQ (fo rs) R vs h'
 | .ret,ρ,h=>wb D h λh'=>mn P fn.results.toList rs ρ h' λvs=>sQ (fo rs) R vs h'
 | _,_,_=>False
inductive TX where
 | nx (x:Hn) (t:TX)
 | r1 (y:Hn) (c:CK) (bd b:Hn)
 | r2 (y:Hn) (c d:CK) (bd b:Hn)
def e1 (c:CK)(y:c.T):List Value:=[c.v y]
def e2 (c d:CK)(y:c.T×d.T):List Value:=[c.v y.1,d.v y.2]
def u9 (P:Program)(fn:Func)(rs:List SK)(R:eX (fo rs)):Code->TX->Env->Hp->Prop
 | .seq a b,.nx x t,ρ,h=>iK P fn.ntmps a x (vZ (λρ' h'=>u9 P fn rs R b t ρ' h') (qh P fn rs R)) ρ h
 | .seq (.seq r (.block _ (.rangeFunc g ps asg bd))) b,.r1 y c yb yc,ρ,h=>iK P fn.ntmps r y (λe ρ' h'=>match e with
  | .normal=>wv (ev ρ' g) λvg=>nb .fn vg λfv=>fT (oc P false b yc) (wM P fn.ntmps 1 (e1 c) fv ps asg bd yb ρ' h' λs=>iK P fn.ntmps b yc (qm P fn rs R h'.size) ρ' s)
  | _=>False) ρ h
 | .seq (.seq r (.block _ (.rangeFunc g ps asg bd))) b,.r2 y c d yb yc,ρ,h=>iK P fn.ntmps r y (λe ρ' h'=>match e with
  | .normal=>wv (ev ρ' g) λvg=>nb .fn vg λfv=>fT (oc P false b yc) (wM P fn.ntmps 2 (e2 c d) fv ps asg bd yb ρ' h' λs=>iK P fn.ntmps b yc (qm P fn rs R h'.size) ρ' s)
  | _=>False) ρ h
 | _,_,_,_=>False
theorem Gi {fn:Func}{rs:List SK}{R:eX (fo rs)}{w0:World}{e:Exit}{ρ:Env}{a:Act}{w:World}(hf:Fits fn.ntmps ρ a)(io:Xx w0 w)(h:qh P fn rs R e ρ w.heap) :
 bodyPostM Fence.wide m0 P fn (λe w'=>Xx w0 w'/\∃vs,e=.returned (pack rs vs)/\Sat (fo rs) R vs w'.heap) e a w:=by
 cases e<;>simp only[qh]at h
 case normal=>
  obtain⟨vs,d,b⟩:=VF hf h;show LeavesInM _ _ _ _ _ _ a.defers _ _;rw[hf.defers];exact⟨_,b,io,vs,rfl,Hs d⟩
 case ret=>
  obtain⟨vs,d,b⟩:=VF hf h;show LeavesInM _ _ _ _ _ _ a.defers _ _;rw[hf.defers];exact⟨_,b,io,vs,rfl,Hs d⟩
theorem Mn {fn:Func}{rs:List SK}{R:eX (fo rs)}{w0:World}{D:Nat}{e:Exit}{ρ:Env}{a:Act}{w:World}(hf:lY [{target:=.collected D,args := #[]}] fn.ntmps ρ a)(io:Xx w0 w)(h:qm P fn rs R D e ρ w.heap) :
 bodyPostM Fence.wide m0 P fn (λe w'=>Xx w0 w'/\∃vs,e=.returned (pack rs vs)/\Sat (fo rs) R vs w'.heap) e a w:=by
 have b:∀{K:List Value->Prop},(wb D w.heap λi=>mn P fn.results.toList rs ρ i λvs=>sQ (fo rs) R vs i) →
  LeavesInM Fence.wide m0 P fn a.tmps (λe w'=>Xx w0 w'/\∃vs,e=.returned (pack rs vs)/\Sat (fo rs) R vs w'.heap) a.defers .returning w:=by
  intro K hd;obtain⟨j,g⟩:=hd;rw[hf.d];obtain⟨vs,p,m⟩:=VF (w:=w.putObj D (.deferred none)) hf.f g;exact⟨by simp,.inl ⟨_,_,rfl,run_takeDeferred j,_,m,io.trans (Hg _ _ _),vs,rfl,Hs p⟩⟩
 cases e<;>simp only[qm]at h
 case normal=>exact b (K:=λ_=>True) h
 case ret=>exact b (K:=λ_=>True) h
theorem SQ {fn:Func}{rs:List SK}{R:eX (fo rs)}{w0:World}:∀(c:Code) {t:TX} {ρ:Env} {a:Act} {w:World},u9 P fn rs R c t ρ w.heap->Fits fn.ntmps ρ a->Xx w0 w →
 c.wpIn Fence.wide m0 P (bodyPostM Fence.wide m0 P fn (λe w'=>Xx w0 w'/\∃vs,e=.returned (pack rs vs)/\Sat (fo rs) R vs w'.heap)) a w:=by
 intro c;have L:∀{α:Type} {n:Nat} {enc:α->List Value} (henc:∀y,(enc y).length=n) {r b:Code} {y yb yc:Hn} {id:Nat} {g:Operand} {ps:Array Nat} {asg bd:Code} {ρ:Env} {a:Act} {w:World},
  iK P fn.ntmps r y (λe u K=>match e with
   | .normal=>wv (ev u g) λM=>nb .fn M λJ=>fT (oc P false b yc) (wM P fn.ntmps n enc J ps asg bd yb u K λs=>iK P fn.ntmps b yc (qm P fn rs R K.size) u s)
   | _=>False) ρ w.heap->Fits fn.ntmps ρ a->Xx w0 w →
  (Code.seq (.seq r (.block id (.rangeFunc g ps asg bd))) b).wpIn Fence.wide m0 P (bodyPostM Fence.wide m0 P fn (λe w'=>Xx w0 w'/\∃vs,e=.returned (pack rs vs)/\Sat (fo rs) R vs w'.heap)) a w:=by
  intro α n enc henc r b y yb yc id g ps asg bd ρ a w h hf io;refine wpIn_seq (wpIn_seq (wpIn_wide.2 (Q8 r h hf λe u H w' j m Q p=>?_)));cases e
  case normal=>
   obtain⟨M,S,B⟩:=WB p;obtain⟨J,rfl,z⟩:=Ub B;rw[WJ]at z;obtain⟨F,E⟩:=z;refine wpIn_block (Nb henc (j.ev _ _ S) j E λY C V U=>?_);have A:lY [{target:=.collected w'.heap.size,args := #[]}] fn.ntmps u {H with defers:={target:=.collected w'.heap.size,args := #[]}::H.defers}:=
    ⟨⟨rfl,j.size,j.at_⟩,by simp only[j.defers]⟩
   exact KH (ro:=none) (ds:=[{target:=.collected w'.heap.size,args := #[]}]) b U F A λe X W Z D G N=>Mn D (((io.trans m).trans C).trans G) N
  all_goals exact p.elim
 induction c with
 | seq a b iha ihb=>
  intro t ρ act w h hf io;cases t with
  | nx x t=>
   simp only[u9]at h;refine wpIn_seq (wpIn_wide.2 (Q8 a h hf λe u H w' j m Q p=>?_));cases e
   case normal=>exact ihb p j (io.trans m)
   case ret=>exact Gi (m0:=m0) (P:=P) (e:=.ret) (R:=R) j (io.trans m) p
   case exit i=>exact Gi (m0:=m0) (P:=P) (e:=.exit i) (R:=R) j (io.trans m) p
   case goto i=>exact Gi (m0:=m0) (P:=P) (e:=.goto i) (R:=R) j (io.trans m) p
   case panic i=>exact Gi (m0:=m0) (P:=P) (e:=.panic i) (R:=R) j (io.trans m) p
   case outgrown=>exact Gi (m0:=m0) (P:=P) (e:=.outgrown) (R:=R) j (io.trans m) p
  | r1 y c yb yc=>
   unfold u9 at h;split at h
   case h_1 hx=>cases hx
   case h_2 heq hx=>cases heq;cases hx;exact L (n:=1) (enc:=e1 _) (λ_=>rfl) h hf io
   case h_3 hx=>cases hx
   case h_4=>exact h.elim
  | r2 y c d yb yc=>
   unfold u9 at h;split at h
   case h_1 hx=>cases hx
   case h_2 hx=>cases hx
   case h_3 heq hx=>cases heq;cases hx;exact L (n:=2) (enc:=e2 _ _) (λ_=>rfl) h hf io
   case h_4=>exact h.elim
 | _=>intro t ρ act w h hf io;cases t<;>simp[u9]at h
def LF (P:Program)(fn:Func)(x:TX)(args:List Value)(rs:List SK)(R:eX (fo rs))(h:Hp):Prop:=
 match fn.body with
 | some c=>fT (Nat.ble args.length fn.ntmps) (u9 P fn rs R c x (G4 args) h)
 | none=>False
theorem FU {f:Nat}{fn:Func}{x:TX}{args:List Value}{rs:List SK}{R:eX (fo rs)}{h:Hp}(hfn:P.funcs[f]?=some fn)(hk:LF P fn x args rs R h):Wg P f args.toArray rs h R:=by
 intro w hw;subst hw;unfold LF at hk;split at hk
 case h_2=>exact hk.elim
 rename_i c hb;rw[WJ]at hk;obtain⟨d,hk⟩:=hk;have g:args.length<=fn.ntmps:=y9 d;refine callsIn_wide.1 (callsIn_of_wp_marks (n:=0) hfn hb trivial (SQ c hk ⟨rfl,by simp;omega,λi v b=>?_⟩ (.refl _)));simp only[G4]at b;have a:i<args.length:=(cY.1 b).1;rw[ya (by simpa using a)];simpa using b
end Go.Vc
namespace Go.Proofs
open Go.Vc
set_option maxRecDepth 100000
def Wh.h:Hn:=.q .o1 (.q (.q .o2 .aK) (.q .o4 .l))
def Wh.v (a:Sl)(b:Hp)(c:Sl->Hp->Prop):Prop:=If a.a.isNone (c ⟨none,0,0⟩ b) (aV #[] 101 b λd e=>App ⟨some d,0,0⟩ 2 16 101 [.I 0,.I 0] a e λf g=>c f g)
theorem Wh.o {a b c}(d:Wh.v a b c):Wh.c a b c:=Wa Tryz.func79 (x:=Wh.h) (R0 d)
def W7.h:Hn:=.q .o1 (.kO [] (.q .o3 (.c .o2 .l)) (.q .o4 (.q (.q .o1 (.k (.loop [(3,.I),(4,.I)] (.q (.q .o4 (.c .l .l)) (.q (.k .o7) .o3))))) .aL)))
def W7.v (a:Sl)(b:Hp)(c:aN):Prop:=Jn [] (λd=>Ix a.a a.len 0 1 λe=>bN e d λf=>Yf [bO,bO] (λg=>g f 1 d) λh (i:Int) (j:Int) k=>If (j<((a.len:Nat):Int)) (Ix a.a a.len j 1 λl=>bN l k λm=>bM (j+1) λn=>h (if m<i then m else i) n k) (c i k)) λo=>If (((a.len:Nat):Int)<1) (False) (o b)
theorem W7.o {a b c}(d:W7.v a b c):W7.c a b c:=Wa Tryz.func108 (x:=W7.h) (R0 d)
def QG.yu (l:Nat)(cap0:Addr)(U:Hp)(R:aP):Prop:=
 lJ cap0 U λt4=>
 oU .i64 (.ag 5) t4 U λit v=>
 Yf [] (λI=>I v) λJ v1=>
 pC .i64 (.ag 5) it v1 (R v1)
  (λkey val v2=>
  oP .i64 (.ag 5) it v2 λkey1 val1=>
  HL Tryz.prog l [.int .i64 key1] v2 λmore v3=>
  If (!more) (R v3)
   (J v3))
def Wb.h:Hn:=.q .o1 (.q .o5 .l)
def Wb.v (a:Sl)(b:Fv)(c:Hp)(d:aO):Prop:=We.c a b c λe f=>d (decide (e≥0)) f
theorem Wb.o {a b c d}(e:Wb.v a b c d):Wb.c a b c d:=Wa Tryz.func114 (x:=Wb.h) (R0 e)
def Wf.h:Hn:=.q .o2 (.q .o3 (.q .o3 (.q (.k (.loop [(9,.I),(10,.I)] (.q (.q .o3 (.c .l .l)) (.k (.q .o7 (.q .o8 (.c .o3 .o2))))))) (.q (.cU (.seq [.op,.op,.op,.op,.op,.cX true 8 (RI.ops 8),.op,.op])) .l))))
def Wf.v (a:Sl)(b:Int)(c:Fv)(d:Hp)(e:Int->Bool->Hp->Prop):Prop:=Yf [bO,bO] (λf=>f 0 ((a.len:Nat):Int) d) λg (h:Int) (i:Int) j=>If (h<i) (bM (h+i) λk=>Ar .u64 k λl=>Nn (1:Int) <| bM (l.fdiv (2^(min (1:Int).toNat IntKind.u64.bits))) λm=>Ix a.a a.len m 4 λn=>aQ n 0 j λo=>aQ n 1 j λp=>aQ n 2 j λq=>aQ n 3 j λr=>VJ Tryz.prog c [.agg #[.I o,.I p,.I q,.I r],.I b] [.I] j λs t=>If (s<0) (bM (m+1) λu=>g u i t) (g h m t)) (bX (λv w=>e h v w) λx=>If (h<((a.len:Nat):Int)) (Ix a.a a.len h 4 λy=>aQ y 0 j λz=>aQ y 1 j λaa=>aQ y 2 j λab=>aQ y 3 j λac=>VJ Tryz.prog c [.agg #[.I z,.I aa,.I ab,.I ac],.I b] [.I] j λad ae=>x (ad==0) ae) (x false j))
theorem Wf.o {a b c d e}(f:Wf.v a b c d e):Wf.c a b c d e:=Wa Tryz.func116 (x:=Wf.h) (R0 f)
def QW.yu (l:Nat)(cap0:Addr)(U:Hp)(R:aP):Prop:=
 lJ cap0 U λt4=>
 oU .i64 (.ag 4) t4 U λit v=>
 Yf [] (λI=>I v) λJ v1=>
 pC .i64 (.ag 4) it v1 (R v1)
  (λkey val v2=>
  oP .i64 (.ag 4) it v2 λkey1 val1=>
  HL Tryz.prog l [.int .i64 key1] v2 λmore v3=>
  If (!more) (R v3)
   (J v3))
def Wv.h:Hn:=.q .o1 (.q .o5 .l)
def Wv.v (a:Sl)(b:Int)(c:Hp)(d:aO):Prop:=W3.c a b c λe f=>d (decide (e≥0)) f
theorem Wv.o {a b c d}(e:Wv.v a b c d):Wv.c a b c d:=Wa Tryz.func122 (x:=Wv.h) (R0 e)
def Wo.h:Hn:=.q .o1 (.q (.q .o2 .aK) (.q .o4 .l))
def Wo.v (a:Sl)(b:Hp)(c:Sl->Hp->Prop):Prop:=If a.a.isNone (c ⟨none,0,0⟩ b) (aV #[] 149 b λd e=>App ⟨some d,0,0⟩ 3 24 149 [.I 0,.I 0,.I 0] a e λf g=>c f g)
theorem Wo.o {a b c}(d:Wo.v a b c):Wo.c a b c:=Wa Tryz.func141 (x:=Wo.h) (R0 d)
def W4.h:Hn:=.q .o1 (.q (.q .o2 .aK) (.q .o4 .l))
def W4.v (a:Sl)(b:Hp)(c:Sl->Hp->Prop):Prop:=If a.a.isNone (c ⟨none,0,0⟩ b) (aV #[] 3 b λd e=>App ⟨some d,0,0⟩ 1 8 3 [.I 0] a e λf g=>c f g)
theorem W4.o {a b c}(d:W4.v a b c):W4.c a b c:=Wa Tryz.func146 (x:=W4.h) (R0 d)
def Wq.h:Hn:=.q .o2 (.q .o5 .l)
def Wq.v (a:Sl)(b c:Bool)(d:Hp)(e:aO):Prop:=aV #[.bool b,.bool c] 181 d λf g=>aZ f 0 g λh=>aZ f 1 g λi=>Wu.c a h i g λj k=>e (decide (j≥0)) k
theorem Wq.o {a b c d e}(f:Wq.v a b c d e):Wq.c a b c d e:=Wa Tryz.func157 (x:=Wq.h) (R0 f)
def We.h:Hn:=.q .o1 (.q (.q .o3 (.k (.loop [(8,.I)] (.q .o1 (.q (.c .l .l) (.q (.k (.q .o2 (.q .o6 .aJ))) .o2)))))) .aM)
def We.v (a:Sl)(b:Fv)(c:Hp)(d:aN):Prop:=Yf [bO] (λe=>e 0 c) λf (g:Int) h=>If (g<((a.len:Nat):Int)) (Ix a.a a.len g 2 λi=>aQ i 0 h λj=>aQ i 1 h λk=>VJ Tryz.prog b [.agg #[.I j,.I k]] [.one .b] h λl m=>If l (d g m) (bM (g+1) λn=>f n m)) (d (-1) h)
theorem We.o {a b c d}(e:We.v a b c d):We.c a b c d:=Wa Tryz.func161 (x:=We.h) (R0 e)
def W3.h:Hn:=.q .o1 (.q (.q .o3 (.k (.loop [(8,.I)] (.q .o1 (.q (.c .l .l) (.q (.k (.q .o2 (.q .o6 .aJ))) .o2)))))) .aM)
def W3.v (a:Sl)(b:Int)(c:Hp)(d:aN):Prop:=Yf [bO] (λe=>e 0 c) λf (g:Int) h=>If (g<((a.len:Nat):Int)) (Ix a.a a.len g 1 λi=>bN i h λj=>If (b==j) (d g h) (bM (g+1) λk=>f k h)) (d (-1) h)
theorem W3.o {a b c d}(e:W3.v a b c d):W3.c a b c d:=Wa Tryz.func163 (x:=W3.h) (R0 e)
def WA.h:Hn:=.q .o1 (.q (.q .o2 .aK) (.q .o4 .l))
def WA.v (a:Sl)(b:Hp)(c:Sl->Hp->Prop):Prop:=If a.a.isNone (c ⟨none,0,0⟩ b) (aV #[] 147 b λd e=>App ⟨some d,0,0⟩ 2 32 147 [.I 0,.slice none 0 0] a e λf g=>c f g)
theorem WA.o {a b c}(d:WA.v a b c):WA.c a b c:=Wa Tryz.func180 (x:=WA.h) (R0 d)
def Wu.h:Hn:=.q .o2 (.q (.q .o3 (.k (.loop [(8,.I)] (.q .o1 (.q (.c .l .l) (.q (.k (.q .o2 (.q (.oq 6) .aJ))) .o2)))))) .aM)
def Wu.v (a:Sl)(b c:Bool)(d:Hp)(e:aN):Prop:=aV #[.bool b,.bool c] 181 d λf g=>Yf [bO] (λh=>h 0 g) λi (j:Int) k=>If (j<((a.len:Nat):Int)) (aZ f 0 k λl=>aZ f 1 k λm=>Ix a.a a.len j 2 λn=>aZ n 0 k λo=>aZ n 1 k λp=>If ((l==o)&&((m==p)&&true)) (e j k) (bM (j+1) λq=>i q k)) (e (-1) k)
theorem Wu.o {a b c d e}(f:Wu.v a b c d e):Wu.c a b c d e:=Wa Tryz.func214 (x:=Wu.h) (R0 f)
def Ws.h:Hn:=.q .o1 (.q (.q .o3 (.k (.loop [(8,.I)] (.q .o1 (.q (.c .l .l) (.q (.k (.q .o2 (.q .o6 .aJ))) .o2)))))) .aM)
def Ws.v (a:Sl)(b:Fv)(c:Hp)(d:aN):Prop:=Yf [bO] (λe=>e 0 c) λf (g:Int) h=>If (g<((a.len:Nat):Int)) (Ix a.a a.len g 3 λi=>aQ i 0 h λj=>aQ i 1 h λk=>aQ i 2 h λl=>VJ Tryz.prog b [.agg #[.I j,.I k,.I l]] [.one .b] h λm n=>If m (d g n) (bM (g+1) λo=>f o n)) (d (-1) h)
theorem Ws.o {a b c d}(e:Ws.v a b c d):Ws.c a b c d:=Wa Tryz.func227 (x:=Ws.h) (R0 e)
def Xk.h:Hn:=.q .o5 (.k (.loop [(2,.I),(3,.I)] (.q (.q .o3 (.c .l .l)) (.q (.k (.cU (.held true [13,15] (.tk [0,1,2,3,4,5,6,7,8,9,10,11,12] (.all [(13,.take 14 (.all [(15,.done)]))]))))) .o6))))
def Xk.v (a:Sl)(b:Hp)(c:aP):Prop:=bM (((a.len:Nat):Int)-1) λd=>Yf [bO,bO] (λe=>e 0 d b) λf (g:Int) (h:Int) i=>If (g<h) (dY i λj=>Ix a.a a.len h 1 λk=>gJ j bO k λ(l:Int)=>Ix a.a a.len g 1 λm=>gJ j bO m λ(n:Int)=>Ix a.a a.len g 1 λo=>dQ o (.I l) i λp=>Ix a.a a.len h 1 λq=>dQ q (.I n) p λr=>bM (g+1) λs=>bM (h-1) λt=>f s t r) (c i)
theorem Xk.o {a b c}(d:Xk.v a b c):Xk.c a b c:=Wa Tryz.func236 (x:=Xk.h) (R0 d)
def Wi.h:Hn:=.q .o1 (.q .o4 (.q (.q .o2 .aJ) (.q (.q .o3 (.k (.loop [(5,.I),(6,.I)] (.q (.q .o4 (.c .l .l)) (.q (.k (.q .o6 (.q .o4 (.c (.q .o5 .o3) .l)))) .o3))))) (.q .o4 (.q .o4 .l)))))
def Wi.v (a:Sl)(b:Fv)(c:Hp)(d:Sl->Hp->Prop):Prop:=Wn.c a b c λe f=>If (e==(-1)) (d a f) (bM (e+1) λg=>Yf [bO,bO] (λh=>h e g f) λi (j:Int) (k:Int) l=>If (k<((a.len:Nat):Int)) (Ix a.a a.len k 3 λm=>aQ m 0 l λn=>aQ m 1 l λo=>aY m 2 l λp=>aV #[.I 0,.I 0,.pointer none] 279 l λq r=>aR q 0 (.I n) r λs=>aR q 1 (.I o) s λt=>aR q 2 (.pointer p) t λu=>aQ q 0 u λv=>aQ q 1 u λw=>aY q 2 u λx=>VJ Tryz.prog b [.agg #[.I v,.I w,.pointer x]] [.one .b] u λy z=>If (!y) (aQ q 0 z λaa=>aQ q 1 z λab=>aY q 2 z λac=>Ix a.a a.len j 3 λad=>aR ad 0 (.I aa) z λae=>aR ad 1 (.I ab) ae λaf=>aR ad 2 (.pointer ac) af λag=>bM (j+1) λah=>bM (k+1) λai=>i ah ai ag) (bM (k+1) λaj=>i j aj z)) (fH a 3 j (a.len:Nat) (a.cap:Nat) λak=>CY ak [.I 0,.I 0,.pointer none] l λal=>fH a 3 0 j (a.cap:Nat) λam=>d am al))
theorem Wi.o {a b c d}(e:Wi.v a b c d):Wi.c a b c d:=Wa Tryz.func247 (x:=Wi.h) (R0 e)
def Wr.h:Hn:=.q .o1 (.q (.q .o3 (.k (.loop [(8,.I)] (.q .o1 (.q (.c .l .l) (.q (.k (.q .o2 (.q .o6 .aJ))) .o2)))))) .aM)
def Wr.v (a:Sl)(b:Fv)(c:Hp)(d:aN):Prop:=Yf [bO] (λe=>e 0 c) λf (g:Int) h=>If (g<((a.len:Nat):Int)) (Ix a.a a.len g 1 λi=>fX i h λj=>VJ Tryz.prog b [.pointer j] [.one .b] h λk l=>If k (d g l) (bM (g+1) λm=>f m l)) (d (-1) h)
theorem Wr.o {a b c d}(e:Wr.v a b c d):Wr.c a b c d:=Wa Tryz.func282 (x:=Wr.h) (R0 e)
def Wc.h:Hn:=.q .o2 (.q .o3 (.q .o3 (.q (.k (.loop [(9,.I),(10,.I)] (.q (.q .o3 (.c .l .l)) (.k (.q .o7 (.q .o8 (.c .o3 .o2))))))) (.q (.cU (.seq [.op,.op,.op,.op,.op,.cX true 8 (RI.ops 8),.op,.op])) .l))))
def Wc.v (a:Sl)(b:Int)(c:Fv)(d:Hp)(e:Int->Bool->Hp->Prop):Prop:=Yf [bO,bO] (λf=>f 0 ((a.len:Nat):Int) d) λg (h:Int) (i:Int) j=>If (h<i) (bM (h+i) λk=>Ar .u64 k λl=>Nn (1:Int) <| bM (l.fdiv (2^(min (1:Int).toNat IntKind.u64.bits))) λm=>Ix a.a a.len m 3 λn=>aQ n 0 j λo=>aQ n 1 j λp=>aY n 2 j λq=>VJ Tryz.prog c [.agg #[.I o,.I p,.pointer q],.I b] [.I] j λr s=>If (r<0) (bM (m+1) λt=>g t i s) (g h m s)) (bX (λu v=>e h u v) λw=>If (h<((a.len:Nat):Int)) (Ix a.a a.len h 3 λx=>aQ x 0 j λy=>aQ x 1 j λz=>aY x 2 j λaa=>VJ Tryz.prog c [.agg #[.I y,.I z,.pointer aa],.I b] [.I] j λab ac=>w (ab==0) ac) (w false j))
theorem Wc.o {a b c d e}(f:Wc.v a b c d e):Wc.c a b c d e:=Wa Tryz.func291 (x:=Wc.h) (R0 f)
def Wl.h:Hn:=.q .o1 (.q .o3 (.q .o3 (.q (.q .o2 .aJ) (.q .o3 (.q (.q .o3 (.c (.q .o4 .l) .l)) (.q (.q .o6 (.c (.q .gA (.q .o5 (.q (.cU (.tail 8 (RI.ops 8) [.op])) .aL))) .l)) (.q .o6 (.q (.q .o8 (.c (.q (.cU (.tail 8 (RI.ops 8) [.op])) (.q .o5 .aL)) .l)) (.q .o5 (.q .o5 .aL))))))))))
def Wl.v (a:Sl)(b:Int)(c:Sl)(d:Hp)(e:Sl->Hp->Prop):Prop:=fH a 3 b (a.len:Nat) (a.cap:Nat) λf=>If (((c.len:Nat):Int)==0) (e a d) (If (b==((a.len:Nat):Int)) (App a 3 24 279 [.I 0,.I 0,.pointer none] c d λg h=>e g h) (bM (((a.len:Nat):Int)+((c.len:Nat):Int)) λi=>If (i>((a.cap:Nat):Int)) (fH a 3 0 b (a.cap:Nat) λj=>bM (((a.len:Nat):Int)+((c.len:Nat):Int)) λk=>bM (k-b) λl=>uv j 3 24 279 [.I 0,.I 0,.pointer none] l d λm n=>fH m 3 b (m.len:Nat) (m.cap:Nat) λo=>sN o 3 c n λp q=>bM (b+((c.len:Nat):Int)) λr=>fH m 3 r (m.len:Nat) (m.cap:Nat) λs=>fH a 3 b (a.len:Nat) (a.cap:Nat) λt=>sN s 3 t q λu v=>e m v) (bM (((a.len:Nat):Int)+((c.len:Nat):Int)) λw=>fH a 3 0 w (a.cap:Nat) λx=>bM (b+((c.len:Nat):Int)) λy=>fH x 3 y (x.len:Nat) (x.cap:Nat) λz=>uY Tryz.prog 320 [.slice c.a c.len c.cap,.slice z.a z.len z.cap] d λaa ab=>If (!aa) (bM (b+((c.len:Nat):Int)) λac=>fH x 3 ac (x.len:Nat) (x.cap:Nat) λad=>fH x 3 b (x.len:Nat) (x.cap:Nat) λae=>sN ad 3 ae ab λaf ag=>fH x 3 b (x.len:Nat) (x.cap:Nat) λah=>sN ah 3 c ag λai aj=>e x aj) (fH x 3 ((a.len:Nat):Int) (x.len:Nat) (x.cap:Nat) λak=>sN ak 3 c ab λal am=>fH x 3 b (x.len:Nat) (x.cap:Nat) λan=>Va.c an ((c.len:Nat):Int) am λao=>e x ao))))
theorem Wl.o {a b c d e}(f:Wl.v a b c d e):Wl.c a b c d e:=Wa Tryz.func293 (x:=Wl.h) (R0 f)
def XA.h:Hn:=.q .o1 (.q .o7 .l)
def XA.v (a:Sl)(b:Hp)(c:Sl->Hp->Prop):Prop:=fH a 1 0 ((a.len:Nat):Int) ((a.len:Nat):Int) λd=>c d b
theorem XA.o {a b c}(d:XA.v a b c):XA.c a b c:=Wa Tryz.func294 (x:=XA.h) (R0 d)
def Wn.h:Hn:=.q .o1 (.q (.q .o3 (.k (.loop [(8,.I)] (.q .o1 (.q (.c .l .l) (.q (.k (.q .o2 (.q .o6 .aJ))) .o2)))))) .aM)
def Wn.v (a:Sl)(b:Fv)(c:Hp)(d:aN):Prop:=Yf [bO] (λe=>e 0 c) λf (g:Int) h=>If (g<((a.len:Nat):Int)) (Ix a.a a.len g 3 λi=>aQ i 0 h λj=>aQ i 1 h λk=>aY i 2 h λl=>VJ Tryz.prog b [.agg #[.I j,.I k,.pointer l]] [.one .b] h λm n=>If m (d g n) (bM (g+1) λo=>f o n)) (d (-1) h)
theorem Wn.o {a b c d}(e:Wn.v a b c d):Wn.c a b c d:=Wa Tryz.func302 (x:=Wn.h) (R0 e)
def WQ.h:Hn:=.q .o1 (.q .o5 .l)
def WQ.v (a:Sl)(b:Fv)(c:Hp)(d:aO):Prop:=Xh.c a b c λe f=>d (decide (e≥0)) f
theorem WQ.o {a b c d}(e:WQ.v a b c d):WQ.c a b c d:=Wa Tryz.func304 (x:=WQ.h) (R0 e)
def Xh.h:Hn:=.q .o1 (.q (.q .o3 (.k (.loop [(8,.I)] (.q .o1 (.q (.c .l .l) (.q (.k (.q .o2 (.q .o6 .aJ))) .o2)))))) .aM)
def Xh.v (a:Sl)(b:Fv)(c:Hp)(d:aN):Prop:=Yf [bO] (λe=>e 0 c) λf (g:Int) h=>If (g<((a.len:Nat):Int)) (Ix a.a a.len g 1 λi=>bN i h λj=>VJ Tryz.prog b [.I j] [.one .b] h λk l=>If k (d g l) (bM (g+1) λm=>f m l)) (d (-1) h)
theorem Xh.o {a b c d}(e:Xh.v a b c d):Xh.c a b c d:=Wa Tryz.func334 (x:=Xh.h) (R0 e)
def KJ.yu (l:Nat)(cap0:Addr)(U:Hp)(R:aP):Prop:=
 lJ cap0 U λt4=>
 oU .i64 .b t4 U λit v=>
 Yf [] (λI=>I v) λJ v1=>
 pC .i64 .b it v1 (R v1)
  (λkey val v2=>
  oP .i64 .b it v2 λkey1 val1=>
  HL Tryz.prog l [.int .i64 key1] v2 λmore v3=>
  If (!more) (R v3)
   (J v3))
def Wk.h:Hn:=.q .o1 (.q .o5 .l)
def Wk.v (a:Sl)(b:Fv)(c:Hp)(d:aO):Prop:=Wt.c a b c λe f=>d (decide (e≥0)) f
theorem Wk.o {a b c d}(e:Wk.v a b c d):Wk.c a b c d:=Wa Tryz.func341 (x:=Wk.h) (R0 e)
def Wt.h:Hn:=.q .o1 (.q (.q .o3 (.k (.loop [(8,.I)] (.q .o1 (.q (.c .l .l) (.q (.k (.q .o2 (.q .o6 .aJ))) .o2)))))) .aM)
def Wt.v (a:Sl)(b:Fv)(c:Hp)(d:aN):Prop:=Yf [bO] (λe=>e 0 c) λf (g:Int) h=>If (g<((a.len:Nat):Int)) (Ix a.a a.len g 2 λi=>aZ i 0 h λj=>aZ i 1 h λk=>VJ Tryz.prog b [.agg #[.bool j,.bool k]] [.one .b] h λl m=>If l (d g m) (bM (g+1) λn=>f n m)) (d (-1) h)
theorem Wt.o {a b c d}(e:Wt.v a b c d):Wt.c a b c d:=Wa Tryz.func355 (x:=Wt.h) (R0 e)
end Go.Proofs
namespace Go.Bu
open Go Go.Vc Go.Proofs
variable {U:Hp}{p n sb:Nat}{S:Nat->Bool}{ms:List Nat}
theorem mJ {k:Nat}{K:Int->Prop}(hk:k<=62)(hK:K ((2^k:Nat):Int)):Nn (k:Int) (Ar .i64 (1*2^(min (k:Int).toNat IntKind.i64.bits)) K):=by
 refine nn O ?_;rw[EO hk];exact cT aA (Fb hk) hK
theorem uD {x k j:Nat}{K:Int->Prop}(hj:j=k)(hk:k<=62)(hx:x<=4611686018427387904)(hK:K ((x/2^k*2^k:Nat):Int)) :
 Ar .i64 (((x:Int).fdiv (2^(min (k:Int).toNat IntKind.i64.bits)))*2^(min (j:Int).toNat IntKind.i64.bits)) K:=by
 subst hj;rw[EO hk,B9];refine cT aA ?_ hK;exact ky (AI _ _) hx
theorem BH.rN (h:BH U p n S sb ms){K:Int->Prop}(hK:K (n:Int)):gI .i64 (Addr.add ⟨p,0,none⟩ 0) U K:=eB h.Mw hK
theorem BH.rB (h:BH U p n S sb ms){K:Sl->Prop}(hK:∀cap,K ⟨some ⟨sb,0,none⟩,ms.length,cap⟩):jH (Addr.add ⟨p,0,none⟩ 1) U K:=by
 obtain⟨cap,a⟩:=h.nF;rw[add_lit];exact oB a (hK cap)
theorem BH.rM (h:BH U p n S sb ms){k m:Nat}(hm:ms[k]?=some m){K:Option Nat->Prop}(hK:K (some m)):Ix (some ⟨sb,0,none⟩) ms.length (k:Int) 1 λa=>lJ a U K:=by
 refine ix O (by have:=(cY.1 hm).1;omega) ?_;rw[add_lit];refine Fz ?_ hK;have:=h.TM hm;simpa using this
theorem Eh (h:BH U p n S sb ms){R:aO}(hR:R true U):Yl.c (aW p) U R:=by
 refine Yl.o ?_;unfold Yl.v;refine bX.intro (cE rfl (bL (h.rN ?_)));have:=h.n1;rw[zI O];exact hR
def ZH (n:Nat)(start aG:Int):Bool:=decide (0<=start)&&(decide (1<=aG)&&decide (aG<=n-start))
theorem RB (h:BH U p n S sb ms)(start aG:Int){R:aN}(h0:ZH n start aG=true->R 0 U)(h1:ZH n start aG=false->R 1 U):Y7.c (aW p) start aG U R:=by
 refine Y7.o ?_;unfold Y7.v;have a:¬(0<=start/\1<=aG/\aG<=n-start)->R 1 U:=λd=>h1 (by simp only[ZH,←vW];exact zL d);have n1:=h.n1;have n2:=h.n2;refine Eh h (cD rfl (bX.intro ?_));refine cP (λh1=>bX.intro (cE rfl (bX.intro (cE rfl (cE rfl (a O)))))) λh1=>?_;refine bX.intro (cP (λi=>bX.intro (cE rfl (cE rfl (a O)))) λi=>?_);refine bL (h.rN ?_);refine bX.intro (cP (λb=>cE rfl (a O)) λb=>?_);refine bL (h.rN (ar O O ?_));refine cP (λg=>a O) λg=>h0 ?_;simp only[ZH,zF,zV];omega
theorem Jx (h:BH U p n S sb ms)(x:Nat)(hx:x<=4611686018427387904){R:Int->Int->Bool->Hp->Prop}
 (h1:∀k q,can S k q=true->x/2^k=q->R (k:Int) ((q*2^k:Nat):Int) true U) (h0:S x=false->R 0 0 false U):XL.c (aW p) (x:Int) U R:=by
 refine XL.o ?_;unfold XL.v;refine bL (h.rB λcap=>?_);refine Qz (a:=bO) (λt s=>∃k:Nat,t=(k:Int)/\k<=ms.length/\s=U/\∀j,j<k->can S j (x/2^j)=false) (λt _=>ms.length-t.toNat) ⟨0,rfl,O,rfl,λj d=>O⟩ ?_;rintro t s ⟨k,rfl,y,rfl,b⟩;have w:=h.len;refine cP (λg=>?_) (λr=>?_)
 ·simp only at g;obtain⟨m,u⟩:=h.get (k:=k) O;refine h.rM u (nn O (nn O (uD rfl O hx (h.lk u rfl ?_))));cases hc:can S k (x/2^k)
  ·refine cD aA (cT (m:=k+1) O O ?_);refine⟨⟨k+1,rfl,O,rfl,λj d=>?_⟩,O⟩;by_cases e:j=k
   ·rw[e];exact hc
   ·exact b j O
  ·exact cE aA (h1 k _ hc rfl)
 ·simp only at r;refine h0 ?_;cases hs:S x
  ·rfl
  ·obtain⟨j,d⟩:=U9 h.jD hs;have:=h.fits (Qd h.jD (Z2.1 d).1);rw[b j O]at d;cases d
def lK (S:Nat->Bool)(x:Int):Bool:=decide (0<=x)&&S x.toNat
theorem δ (h:BH U p n S sb ms)(x:Int){R:aO}(hR:R (lK S x) U):YE.c (aW p) x U R:=by
 refine YE.o ?_;unfold YE.v;have n2:=h.n2;refine Eh h (bX.intro (cD rfl ?_));refine bX.intro (cP (λd=>cE rfl ?_) λd=>bL (h.rN ?_))
 ·have:lK S x=false:=by simp[lK];intro;omega
  rw[this]at hR;exact hR
 ·refine cP (λi=>?_) λi=>?_
  ·have:lK S x=false:=by
    simp only[lK];cases a:S x.toNat
    ·simp
    ·have:=h.jD _ a;omega
   rw[this]at hR;exact hR
  ·obtain⟨y,rfl⟩:=zc (show 0<=x by omega);have e:lK S (y:Int)=S y:=by simp[lK]
   rw[e]at hR;refine Jx h y O (λk q g b=>?_) λa=>?_
   ·rw[UB g b]at hR;exact hR
   ·rw[a]at hR;exact hR
theorem Mq {k q:Nat}(h:BH U p n S sb ms)(hf:q*2^k+2^k<=n)(hd:∀x,x/2^k=q->S x=false){R:aP}
 (hR:∀σ',Ext (· ∈ ms) U σ'->BH σ' p n (ins S k q) sb ms->R σ'):ZB.c (aW p) (k:Int) ((q*2^k:Nat):Int) U R:=by
 refine ZB.o ?_;unfold ZB.v;refine UI (a:=bO) (bb:=bO)
  (λo s C=>∃(j r:Nat) (T:Nat->Bool),o=(j:Int)/\s=((r*2^j:Nat):Int)/\r*2^j+2^j<=n/\BH C p n T sb ms/\Ext (· ∈ ms) U C/\(∀x,x/2^j=r->T x=false)/\ins T j r=ins S k q)
  (λo _ _=>ms.length-o.toNat) ⟨k,q,S,rfl,rfl,hf,h,Ext.refl _ _,hd,rfl⟩ ?_
 rintro o s C ⟨j,r,T,rfl,rfl,z,d,N,A,w⟩;have Y:=d.len;have V:=d.fits z;have Q:=d.n2;have X:=k5 j;obtain⟨m,B⟩:=d.get V;have y:¬full (ins T j r) (j+1) (r/2)=true->(bW (some ⟨p,0,none⟩) λM=>jH (M.add 1) C λE=>Ix E.a E.len (j:Int) 1 λG=>lJ G C λH=>kQ .i64 .b H ((r*2^j:Nat):Int) true C λv3=>R v3):=by
  intro g;refine bL (d.rB λcap=>d.rM B ?_);refine d.xo B A g z rfl λD e J=>hR D (N.trans e) ?_;rw[←w];exact J
 refine cT (m:=j+1) O O (bL (d.rB λcap=>bX.intro ?_));refine cP (λL=>?_) (λK=>?_)
 ·simp only at L;refine bL (d.rB λcap=>d.rM B (mJ O ?_));have P:=Fb (show j<=62 by omega);have F:bits .xor .i64 ((r*2^j:Nat):Int) ((2^j:Nat):Int)=((ig r*2^j:Nat):Int):=by
   rw[Γ O O,PN]
  rw[F];refine d.lk B rfl ?_;cases hc:can T j (ig r)
  ·refine cD aA (y (MM A (by simp[hc])))
  ·refine cE aA ?_;refine bL (d.rB λcap=>d.rM B (mJ O ?_));rw[F];refine d.tn B hc rfl λD e J=>?_;refine cT (m:=j+1) O O (nn O (cT (m:=j+1) O O (nn O ?_)));refine uD rfl O O ?_;refine cT (m:=j+1) O O ⟨⟨j+1,r/2,del T j (ig r),rfl,?_,?_,J,N.trans e,?_,?_⟩,O⟩
   ·rw[mH,←tU,Vs]
   ·-- both halves lie within
    have u:=Qd d.jD (Z2.1 hc).1;have e2:r/2*2^(j+1)=(r/2*2)*2^j:=by rw[mH,Nat.mul_comm (2^j) 2,←xY]
    rw[e2,mH];have g:(r/2*2)+1=r\/(r/2*2)+1=ig r:=by unfold ig;split<;>omega
    have W:(r/2*2)*2^j+2^j*2=((r/2*2)+1)*2^j+2^j:=by rw[zp];omega
    rw[W];rcases g with e4|e4<;>rw[e4]<;>assumption
   ·intro x F;rcases HJ.1 F with u|u
    ·simp[del,A x u]
    ·simp[del,u]
   ·rw[←w];refine uo λx=>?_;rw[V7,V7,V3,HJ];by_cases u:x/2^j=ig r
    ·simp[u,UB hc u]
    ·simp[u]
 ·simp only at K;refine cD rfl (y λg=>?_);have:=Qd (FP d.jD z) g;have u:2^ms.length<=2^(j+1):=qk aB O;have:=d.hi;omega
theorem CO {a m:Nat}(h:BH U p n S sb ms)(hf:a+m<=n)(hd:∀x,a<=x->x<a+m->S x=false){R:aP}
 (hR:∀σ',Ext (· ∈ ms) U σ'->BH σ' p n (dG S a (a+m)) sb ms->R σ'):Ys.c (aW p) (a:Int) (m:Int) U R:=by
 refine Ys.o ?_;unfold Ys.v;have J:=h.n2;refine UI (a:=bO) (bb:=bO)
  (λs c y=>∃(a' r:Nat),s=(a':Int)/\c=(r:Int)/\a<=a'/\a'+r=a+m/\BH y p n (dG S a a') sb ms/\Ext (· ∈ ms) U y)
  (λ_ c _=>c.toNat) ⟨a,m,rfl,rfl,O,rfl,by rw[PO];exact h,Ext.refl _ _⟩ ?_
 rintro s c y ⟨a',r,rfl,rfl,D,P,H,F⟩;refine cP (λE=>?_) (λW=>?_)
 ·refine Qz (a:=bO) (λk u=>∃j q:Nat,k=(j:Int)/\a'=q*2^j/\2^j<=r/\u=y) (λk _=>12-k.toNat) ⟨0,a',rfl,by simp,by simp;omega,rfl⟩ ?_;rintro k u ⟨j,q,rfl,L,K,rfl⟩;have V:j<=10:=by
   apply Classical.byContradiction;intro hc;have:2^11<=2^j:=qk aB O;omega
  refine cT (m:=j+1) O O (nn O (cT (m:=j+1) O O (nn O ?_)));refine uD rfl O O (bX.intro ?_);have g:(ZB.c (aW p) (j:Int) (a':Int) u λv3=>
   Nn (j:Int)<|Ar .i64 (1*2^(min (j:Int).toNat IntKind.i64.bits)) λz=>Ar .i64 ((a':Int)+z) λd=>
   Nn (j:Int)<|Ar .i64 (1*2^(min (j:Int).toNat IntKind.i64.bits)) λB=>Ar .i64 ((r:Int)-B) λb=>
   (∃(a'' m'':Nat),d=(a'':Int)/\b=(m'':Int)/\a<=a''/\a''+m''=a+m/\BH v3 p n (dG S a a'') sb ms/\Ext (· ∈ ms) U v3)/\b.toNat<(r:Int).toNat):=by
   subst L;refine Mq H O (λx M=>?_) λv3 e w=>?_
   ·have:=QJ.1 M;have Q:=hd x O O;simp only[dG,Q,xz];rw[zL (show ¬x<q*2^j by omega),uC]
   ·have C:=k5 j;refine mJ O (cT (m:=q*2^j+2^j) O O (mJ O (cT (m:=r-2^j) O O ?_)));refine⟨⟨_,_,rfl,rfl,O,O,?_,F.trans e⟩,O⟩;rw[Sn,L9 D O]at w;exact w
  refine cO (λG=>?_) (λG=>cD rfl g);have A:a'/2^(j+1)*2^(j+1)=a':=by
   have:=zU.1 G
   exact_mod_cast this
  refine cT (m:=j+1) O O (mJ O ?_);refine cP (λN=>?_) λ_=>g;refine cT (m:=j+1) O O ⟨⟨j+1,a'/2^(j+1),rfl,A.symm,O,rfl⟩,O⟩
 ·have:r=0:=by omega
  subst this;have:a'=a+m:=by omega
  subst this;exact hR y F H
theorem Ny {a m:Nat}(h:BH U p n S sb ms)(hf:a+m<=n)(hd:∀x,a<=x->x<a+m->S x=true){R:aP}
 (hR:∀σ',Ext (· ∈ ms) U σ'->BH σ' p n (take S a (a+m)) sb ms->R σ'):ZM.c (aW p) (a:Int) (m:Int) U R:=by
 refine ZM.o ?_;unfold ZM.v;have M:=h.n2;refine Qz (a:=bO) (λs z=>∃x:Nat,s=(x:Int)/\a<=x/\BH z p n (take S a (min x (a+m))) sb ms/\Ext (· ∈ ms) U z)
  (λs _=>a+m-s.toNat) ⟨a,rfl,O,by rw[qI O,Nd];exact h,Ext.refl _ _⟩ ?_
 rintro s z ⟨x,rfl,F,d,L⟩;refine cT (m:=a+m) O O ?_;refine cP (λaa=>?_) (λY=>?_)
 ·rw[qI O]at d;have Q:take S a x x=true:=Vq.2 ⟨hd x F O,O⟩;refine Jx d x O (λk q G N=>?_) (λj=>by rw[Q]at j;cases j);have J:=Qd d.jD (Z2.1 G).1;have P:=d.fits J;have hl:=d.len;obtain⟨mm,K⟩:=d.get P;have W:=QJ.1 N;refine bL (d.rB λcap=>d.rM K ?_);refine d.tn K G rfl λh1 e1 B=>?_;refine mJ O (cT (m:=q*2^k+2^k) O O (cT (m:=x-q*2^k) O O ?_));refine CO B O (λy H D=>?_) λh2 e2 g=>?_
  ·have:y/2^k=q:=QJ.2 O;simp[del,this]
  ·have u:=(L.trans e1).trans e2;rw[show q*2^k+(x-q*2^k)=x by omega]at g;have r:∀y,q*2^k<=y/\y<q*2^k+2^k->S y=true/\¬(a<=y/\y<x):=λy b=>Vq.1 (UB G (QJ.2 b));refine cT (m:=a+m) O O (cP (λV=>?_) λX=>?_)
   ·refine cT (m:=q*2^k+2^k-(a+m)) O O ?_;refine CO g O (λy H D=>?_) λh3 Z w=>?_
    ·have:y/2^k=q:=QJ.2 O;have C:¬y<x:=by omega
     simp[dG,del,this,C]
    ·refine⟨⟨_,rfl,O,?_,u.trans Z⟩,O⟩;rw[Nat.min_eq_right O];have:dG (dG (del (take S a x) k q) (q*2^k) x) (a+m) (a+m+(q*2^k+2^k-(a+m)))=take S a (a+m):=by
      refine uo λy=>?_;have b:=r y;simp only[KU,V3,Vq,Ne,QJ];generalize q*2^k=A at *;generalize 2^k=E at *;cases j:S y
      ·rw[j]at b;simp only[za,false_and,false_or,iff_false,imp_false]at b ⊢;omega
      ·rw[j]at b;simp only[uA]at b ⊢;omega
     rw[this]at w;exact w
   ·refine⟨⟨_,rfl,O,?_,u⟩,O⟩;rw[qI O];have:dG (del (take S a x) k q) (q*2^k) x=take S a (q*2^k+2^k):=by
     refine uo λy=>?_;have b:=r y;simp only[KU,V3,Vq,Ne,QJ];generalize q*2^k=A at *;generalize 2^k=E at *;cases j:S y
     ·rw[j]at b;simp only[za,false_and,false_or,iff_false,imp_false]at b ⊢;omega
     ·rw[j]at b;simp only[uA]at b ⊢;omega
    rw[this]at g;exact g
 ·rw[Nat.min_eq_right O]at d;exact hR z L d
def qH (S:Nat->Bool)(a m:Nat):Bool:=(List.range m).all λi=>!S (a+i)
theorem VP {S:Nat->Bool}{a m:Nat}:qH S a m=true↔∀x,a<=x->x<a+m->S x=false:=by
 simp only[qH,kx,ze,mL];exact⟨λh x b d=>by have:=h (x-a) O;rwa [show a+(x-a)=x by omega]at this,λh i hi=>h _ O O⟩
theorem Rv {S:Nat->Bool}{a m x:Nat}(h1:a<=x)(h2:x<a+m)(h:S x=true):qH S a m=false:=by
 cases e:qH S a m
 ·rfl
 ·rw[VP.1 e x h1 h2]at h;cases h
def Ah (n:Nat)(S:Nat->Bool)(a m:Int):Int:=if ZH n a m then(if qH S a.toNat m.toNat then 0 else 9)else 1
def Ki (n:Nat)(S:Nat->Bool)(a m:Int):Nat->Bool:=if ZH n a m&&qH S a.toNat m.toNat then dG S a.toNat (a.toNat+m.toNat)else S
theorem σ {n:Nat}{a m:Int}(h:ZH n a m=true):∃x y:Nat,a=(x:Int)/\m=(y:Int)/\1<=y/\x+y<=n:=by
 simp only[ZH,zF,zV]at h;exact⟨a.toNat,m.toNat,O,O,O,O⟩
theorem qZ (h:BH U p n S sb ms)(a m:Int){R:aN}
 (hR:∀σ',Ext (· ∈ ms) U σ'->BH σ' p n (Ki n S a m) sb ms->R (Ah n S a m) σ'):Yy.c (aW p) a m U R:=by
 refine Yy.o ?_;unfold Yy.v;have B:=h.n2;refine RB h a m (λd=>cD rfl ?_) (λd=>cE rfl ?_)
 ·obtain⟨x,y,rfl,rfl,G,w⟩:=σ d;refine Qz (a:=bO) (λt s=>∃z:Nat,t=(z:Int)/\x<=z/\s=U/\∀u,x<=u->u<z->S u=false) (λt _=>x+y-t.toNat) ⟨x,rfl,O,rfl,λu _ _=>O⟩ ?_;rintro t s ⟨z,rfl,F,rfl,g⟩;refine cT (m:=x+y) O O ?_;refine cP (λC=>δ h _ ?_) (λA=>?_)
  ·have e:lK S (z:Int)=S z:=by simp[lK]
   rw[e];cases hs:S z
   ·refine cD rfl (cT (m:=z+1) O O ⟨⟨z+1,rfl,O,rfl,λu r D=>?_⟩,O⟩);by_cases e:u=z
    ·rw[e];exact hs
    ·exact g u r O
   ·refine cE rfl ?_;have j:=Rv (m:=y) F O hs;have:=hR s (Ext.refl _ _);simp only[Ah,Ki,d,dH,j,uC,zT,za,jX]at this;exact this h
  ·have b:∀u,x<=u->u<x+y->S u=false:=λu r D=>g u r O;have j:=VP.2 b;refine CO h w b λr e1 E=>?_;have:=hR r e1;simp only[Ah,Ki,d,dH,j,we,zT]at this;exact this E
 ·have:=hR U (Ext.refl _ _);simp only[Ah,Ki,d,vo,za,jX]at this;exact this h
end Go.Bu
namespace Go.Ar
open Go.Bu
def vC (n:Nat)(h:Int):Bool:=decide (0<=h)&&decide (h<((n/16:Nat):Int))
def kJ (st:List Nat)(h:Int):Int:=if vC st.length h then(if st.getD (16*h.toNat) 0=0 then 0 else 5)else 1
def jb (st:List Nat)(h:Int):List Nat:=if kJ st h=0 then gF st (16*h.toNat) (16*h.toNat+16) 3 else st
def wc (st:List Nat)(a m:Nat)(fr:List Nat):Bool:=((st.drop a).take m).all fr.contains
def pS (st:List Nat)(a m:Int)(fr:List Nat):Int:=if ZH st.length a m then(if wc st a.toNat m.toNat fr then 0 else 5)else 1
def UQ (st:List Nat)(a m:Int)(v:Nat)(fr:List Nat):List Nat:=if pS st a m fr=0 then gF st a.toNat (a.toNat+m.toNat) v else st
def WoM (st:List Nat)(h:Nat):Nat:=if tQ st (16*h) (16*h+16) 1=0 then 0 else if 0<tQ st (16*h) (16*h+16) 3 then 1 else 2
def WoT (st:List Nat)(k:Nat):List Nat:=(List.range (st.length/16)).filter λh=>st.getD (16*h) 0 != 0&&WoM st h==k
def used (st:List Nat)(h:Nat):Nat:=tQ st (16*h) (16*h+16) 1
structure Sp where
 st:List Nat
 wd:Nat->Int
 pk:Nat
def Sp.set (s:Sp)(a m v:Nat):Sp:={s with st:=gF s.st a (a+m) v,wd:=λw=>if a*32<=w/\w<(a+m)*32 then 0 else s.wd w}
def fF (s:Sp)(a m:Int):Int:=if ZH s.st.length a m then(if((s.st.drop a.toNat).take m.toNat).any (· != 0)then 5 else 0)else 1
def gp (s:Sp)(a m:Int):Sp:=if fF s a m=0 then s.set a.toNat m.toNat 1 else s
def eM (s:Sp)(x:Int):Int:=if x<0\/x%8≠0 then 7 else if s.st.getD (x.toNat/256) 0=0 then 7 else 0
def nZ (s:Sp)(w:Nat)(v:Int):Sp:=
 {st:=s.st.set (w/32) 2,wd:=λu=>if u=w then v else s.wd u,pk:=if s.st.getD (w/32) 0=2 then s.pk else max s.pk ((s.st.set (w/32) 2).count 2)}
def Zm (s:Sp)(x v:Int):Sp:=if eM s x=0 then nZ s (x.toNat/8) v else s
end Go.Ar
namespace Go.Ar
structure Li where
 os:List Int
 lim:Nat
 low:Nat
 deriving DecidableEq
def ir:Li:=⟨[],1,0⟩
structure fP (l:Li):Prop where
 low:l.low<=l.os.length
 many:l.os.length<=256
 lim:l.lim<=128
 nC:1<=l.lim
def gL (m:Nat)(l:Li):List Int×Li:=(l.os.take m,{l with os:=l.os.drop m,low:=min l.low (l.os.length-m)})
def mG (c:cA)(l:Li):Li:=if l.lim<c.batch then{l with lim:=l.lim+1}else l
def KM (c:cA)(l:Li):Option Int×Li:=match l.os.getLast? with
 | none=>(none,if l.lim<c.batch then{l with lim:=l.lim+1}else{l with lim:=min (l.lim+c.batch) 128})
 | some x=>(some x,{l with os:=l.os.dropLast,low:=min l.low (l.os.length-1)})
def qp (c:cA)(l:Li):Nat:=min l.lim c.batch
def eO (xs:List Int)(l:Li):Li:=if l.os.length+xs.length>256 then l else{l with os:=l.os++xs}
def dM (c:cA)(x:Int)(l:Li):List Int×Li:=
 if l.os.length+1>256 then([],l)
 else if l.os.length+1<=l.lim then([],eO [x] l)
 else gL (min c.batch (l.os.length+1)) (mG c (eO [x] l))
def Vx (c:cA)(l:Li):List Int×Li:=
 ((gL ((l.low+1)/2) l).1,{os:=(gL ((l.low+1)/2) l).2.os,lim:=if l.lim>c.batch then max (l.lim-c.batch) c.batch else l.lim,low:=(gL ((l.low+1)/2) l).2.os.length})
def Qc (_:cA)(l:Li):List Int×Li:=gL l.os.length l
abbrev Bt:=Nat×List Int
def KK (f:cA->Li->List Int×Li)(tb:List cA)(ls:List Li):List Bt:=(List.range tb.length).filterMap λk=>match tb[k]?,ls[k]? with
 | some c,some l=>if(f c l).1=[]then none else some (k,(f c l).1)
 | _,_=>none
def KF (f:cA->Li->List Int×Li)(tb:List cA)(ls:List Li):List Li:=List.zipWith (λc l=>(f c l).2) tb ls
def KC (tb:List cA)(ls:List Li):Nat:=((tb.zip ls).map λx=>x.1.size*x.2.os.length).sum
theorem fP.nil:fP ir:=⟨zD _,by decide,by decide,by decide⟩
theorem y7 {m:Nat}{l:Li}(h:fP l):fP (gL m l).2:=by
 have a:=h.low;have b:=h.many;refine⟨?_,?_,h.lim,h.nC⟩
 ·simp only[gL,kB];omega
 ·simp only[gL,kB];omega
theorem Fo {c:cA}{l:Li}(hc:c.ok)(h:fP l):fP (KM c l).2:=by
 have a:=h.low;have b:=h.many;have g:=h.lim;have d:=h.nC;unfold cA.ok at hc;unfold KM;split
 ·split
  ·exact⟨a,b,by simp only;omega,by simp only;omega⟩
  ·exact⟨a,b,by simp only;omega,by simp only;omega⟩
 ·exact⟨by simp only[Ce];omega,by simp only[Ce];omega,g,d⟩
theorem yF {xs:List Int}{l:Li}(h:fP l):fP (eO xs l):=by
 have a:=h.low;have b:=h.many;unfold eO;split
 ·exact h
 ·exact⟨by simp only[zK];omega,by simp only[zK];omega,h.lim,h.nC⟩
theorem Jr {c:cA}{l:Li}(hc:c.ok)(h:fP l):fP (mG c l):=by
 have a:=h.lim;unfold cA.ok at hc;unfold mG;split
 ·exact⟨h.low,h.many,by simp only;omega,by simp only;omega⟩
 ·exact h
theorem Wm3 {c:cA}{x:Int}{l:Li}(hc:c.ok)(h:fP l):fP (dM c x l).2:=by
 unfold dM;split
 ·exact h
 ·split
  ·exact yF h
  ·exact y7 (Jr hc (yF h))
theorem F6 {c:cA}{l:Li}(hc:c.ok)(h:fP l):fP (Vx c l).2:=by
 have a:=(y7 (m:=(l.low+1)/2) h).many;have d:=h.lim;have b:=h.nC;unfold cA.ok at hc;refine⟨zD _,a,?_,?_⟩<;>simp only[Vx]<;>split<;>omega
theorem θ {c:cA}{l:Li}(h:fP l):fP (Qc c l).2:=y7 h
theorem PI (c:cA)(hc:c.ok):Vx c ir=([],ir):=by
 unfold cA.ok at hc;simp[Vx,ir,gL];omega
theorem TH (c:cA):Qc c ir=([],ir):=by simp[Qc,ir,gL]
def gR.rem (t:gR):gR:={low:=min t.low (t.bs.length-1),bs:=t.bs.dropLast}
def gR.tick (t:gR):gR:={low:=(t.bs.drop ((t.low+1)/2)).length,bs:=t.bs.drop ((t.low+1)/2)}
def gR.out (t:gR):List (List Int):=t.bs.take ((t.low+1)/2)
end Go.Ar
namespace Go.Proofs
open Go.Vc
set_option maxRecDepth 100000
def QN.h:Hn:=.q .o1 (.q .o3 .l)
def QN.v (a:Hp)(b:Option Addr->Hp->Prop):Prop:=aV #[.bool true,.pointer none,.pointer none,.pointer none,.pointer none,.pointer none,.pointer none,.pointer none,.pointer none,.pointer none,.pointer none,.pointer none,.pointer none,.pointer none,.pointer none,.pointer none,.pointer none] 352 a λc d=>b (some c) d
theorem QN.o {a b}(c:QN.v a b):QN.c a b:=Wa Tryz.func209 (x:=QN.h) (R0 c)
def X0.h:Hn:=.q .o1 (.q .o5 .l)
def X0.v (a:R2)(b c:Int)(d:Hp)(e:aN):Prop:=YW.c a b c 0 d λf g=>e f g
theorem X0.o {a b c d e}(f:X0.v a b c d e):X0.c a b c d e:=Wa Tryz.func244 (x:=X0.h) (R0 f)
def XW.h:Hn:=.q .o1 (.q (.cU (.seq [.op,.op,.op,.cX true 4 (RI.ops 4),.op])) .l)
def XW.v (a:R2)(b:Hp)(c:aO):Prop:=bX (λd e=>c d e) λf=>If (!a.isNone) (bH a 0 b λh=>f h b) (f false b)
theorem XW.o {a b c}(d:XW.v a b c):XW.c a b c:=Wa Tryz.func270 (x:=XW.h) (R0 d)
def YW.h:Hn:=.q .o1 (.q (.k (.q .o4 (.c .aM (.q (.cU (.seq [.op,.op,.op,.cX false 2 [.op,.op],.op,.cX false 2 [.op,.op],.op,.cX false 4 (RI.ops 4),.op])) .aK)))) (.q (.q .o2 (.k (.loop [(9,.I)] (.q (.q .o5 (.c .l .l)) (.q (.k .o4) .o3))))) .aM))
def YW.v (a:R2)(b c d:Int)(e:Hp)(f:aN):Prop:=XW.c a e λg h=>If (!g) (f 5 h) (bX (λi j=>bX (λk l=>bX (λm n=>If m (f 1 n) (Yf [bO] (λo=>o b n) λp (q:Int) r=>bM (b+c) λs=>If (q<s) (Zs.c a q d r λt=>bM (q+1) λu=>p u t) (f 0 r))) λv=>If k (v true l) (bM (1024-b) λw=>v (decide (c>w)) l)) λx=>If i (x true j) (x (decide (b>1024)) j)) λy=>If (b<0) (y true h) (y (decide (c<1)) h))
theorem YW.o {a b c d e f}(g:YW.v a b c d e f):YW.c a b c d e f:=Wa Tryz.func272 (x:=YW.h) (R0 g)
def YA.h:Hn:=.q .o1 (.q (.q (.cU (.seq [.op,.op,.op,.cX true 6 [.op,.op,.op,.cX false 2 [.op,.op]]])) .aK) (.q .o6 .l))
def YA.v (a:R2)(b c d:Int)(e:Hp)(f:aN):Prop:=XW.c a e λg h=>bX (λi j=>If i (f 1 j) (YW.c a b c d j λk l=>f k l)) λm=>If g (bX (λn o=>m n o) λp=>If (d<1) (p true h) (p (decide (d>1073741824)) h)) (m false h)
theorem YA.o {a b c d e f}(g:YA.v a b c d e f):YA.c a b c d e f:=Wa Tryz.func289 (x:=YA.h) (R0 g)
def Zq.h:Hn:=.q .o1 (.q (.q (.cU (.seq [.op,.op,.op,.op,.cX false 2 [.op,.op],.op,.cX false 2 [.op,.op]])) .aK) (.q .o9 (.q (.q (.cU (.seq [.op,.op,.op,.cX false 8 (RI.ops 8)])) .aK) (.q (.o 13) .l))))
def Zq.v (a:R2)(b:Int)(c:Hp)(d:aN):Prop:=XW.c a c λe f=>bX (λg h=>bX (λi j=>If i (d 0 j) (Nz 8<|bM (b.tdiv 8) λk=>Nz 8<|bM (k.tdiv 8) λl=>bW a λm=>oh (m.add 1) 16 l 1 λn=>fX n j λo=>bX (λp q=>If p (d 0 q) (Nz 8<|bM (b.tdiv 8) λr=>Nz 8 <| bW o λs=>oh s 8 (r.tmod 8) 1 λt=>fX t q λu=>Nz 8 <| bW u λv=>oh v 8 (b.tmod 8) 1 λw=>bN w q λx=>d x q)) λy=>If o.isNone (y true j) (Nz 8<|bM (b.tdiv 8) λz=>Nz 8 <| bW o λaa=>oh aa 8 (z.tmod 8) 1 λab=>fX ab j λac=>y ac.isNone j))) λad=>If g (ad true h) (ad (decide (b≥1024)) h)) λae=>If (!e) (ae true f) (ae (decide (b<0)) f)
theorem Zq.o {a b c d}(e:Zq.v a b c d):Zq.c a b c d:=Wa Tryz.func295 (x:=Zq.h) (R0 e)
def Zs.h:Hn:=.q .o9 (.q .o8 (.q .o7 (.kO [] (.q .o5 (.c .o7 .l)) (.q .o5 (.c .o8 .l)))))
def Zs.v (a:R2)(b c:Int)(d:Hp)(e:aP):Prop:=Nz 8<|bM (b.tdiv 8) λf=>Nz 8<|bM (f.tdiv 8) λg=>bW a λh=>oh (h.add 1) 16 g 1 λi=>WN.c (some i) d λj k=>Nz 8<|bM (b.tdiv 8) λl=>Nz 8 <| bW j λm=>oh m 8 (l.tmod 8) 1 λn=>WS.c (some n) k λo p=>Nz 8 <| bW o λq=>oh q 8 (b.tmod 8) 1 λr=>dQ r (.I c) p λs=>Jn [] (λt=>bW j λu=>aY u 0 t λv=>aY u 1 t λw=>aY u 2 t λx=>aY u 3 t λy=>aY u 4 t λz=>aY u 5 t λaa=>aY u 6 t λab=>aY u 7 t λac=>If (v.isNone&&(w.isNone&&(x.isNone&&(y.isNone&&(z.isNone&&(aa.isNone&&(ab.isNone&&(ac.isNone&&true)))))))) (Nz 8<|bM (b.tdiv 8) λad=>Nz 8<|bM (ad.tdiv 8) λae=>bW a λaf=>oh (af.add 1) 16 ae 1 λag=>dQ ag (.pointer none) t λah=>e ah) (e t)) λai=>bW o λaj=>aQ aj 0 s λak=>aQ aj 1 s λal=>aQ aj 2 s λam=>aQ aj 3 s λan=>aQ aj 4 s λao=>aQ aj 5 s λap=>aQ aj 6 s λaq=>aQ aj 7 s λar=>If ((ak==0)&&((al==0)&&((am==0)&&((an==0)&&((ao==0)&&((ap==0)&&((aq==0)&&((ar==0)&&true)))))))) (Nz 8<|bM (b.tdiv 8) λau=>Nz 8 <| bW j λav=>oh av 8 (au.tmod 8) 1 λaw=>dQ aw (.pointer none) s λax=>ai ax) (ai s)
theorem Zs.o {a b c d e}(f:Zs.v a b c d e):Zs.c a b c d e:=Wa Tryz.func312 (x:=Zs.h) (R0 f)
def WN.h:Hn:=.q .o1 (.kO [] (.q .o4 (.c .o4 .l)) (.q .o4 .l))
def WN.v (a:R2)(b:Hp)(c:Option Addr->Hp->Prop):Prop:=Jn [] (λd=>bW a λe=>fX e d λf=>c f d) λg=>bW a λh=>fX h b λi=>If i.isNone (aV #[.pointer none,.pointer none,.pointer none,.pointer none,.pointer none,.pointer none,.pointer none,.pointer none] 402 b λj k=>bW a λl=>dQ l (.pointer (some j)) k λm=>g m) (g b)
theorem WN.o {a b c}(d:WN.v a b c):WN.c a b c:=Wa Tryz.func337 (x:=WN.h) (R0 d)
def WS.h:Hn:=.q .o1 (.kO [] (.q .o4 (.c .o4 .l)) (.q .o4 .l))
def WS.v (a:R2)(b:Hp)(c:Option Addr->Hp->Prop):Prop:=Jn [] (λd=>bW a λe=>fX e d λf=>c f d) λg=>bW a λh=>fX h b λi=>If i.isNone (aV #[.I 0,.I 0,.I 0,.I 0,.I 0,.I 0,.I 0,.I 0] 406 b λj k=>bW a λl=>dQ l (.pointer (some j)) k λm=>g m) (g b)
theorem WS.o {a b c}(d:WS.v a b c):WS.c a b c:=Wa Tryz.func338 (x:=WS.h) (R0 d)
end Go.Proofs
namespace Go.Ar
open Go Go.Vc Go.Proofs
open Go.Bu (ZH)
variable {U:Hp}{F:Rg}{p:Nat}{M Lf:Nat->Option Nat}{ow:Nat->Nat}
def eV {α:Type}(f:Nat->α)(k:Nat)(v:α):Nat->α:=λi=>if i=k then v else f i
theorem ZX {α:Type}(f:Nat->α)(k:Nat)(v:α):eV f k v k=v:=by simp[eV]
theorem QV {α:Type}(f:Nat->α){k i:Nat}(v:α)(h:i≠k):eV f k v i=f i:=by simp[eV,h]
theorem KP {α:Type}(f:Nat->α)(n k:Nat)(v:α):((List.range n).map f).set k v=(List.range n).map (eV f k v):=by
 apply zt;intro i;by_cases hik:i=k
 ·subst hik;rcases kv i n with h|h
  ·rw[zO (by simpa using h)];simp[nD h,eV]
  ·rw[zX (by simpa using h),zX (by simpa using h)]
 ·rw[zh (Ne.symm hik)];simp only[zZ];rcases kv i n with h|h
  ·simp[nD h,eV,hik]
  ·simp[zX (show(List.range n).length<=i by simpa using h)]
theorem K0 {α:Type}(f:Nat->α){n k:Nat}(h:k<n):((List.range n).map f)[k]?=some (f k):=by simp[nD h]
def ptr (o:Option Nat):Value:=.pointer (o.map λq=>⟨q,0,none⟩)
structure kf (U:Hp) (F:Rg) (p:Nat) (M Lf:Nat->Option Nat) (ow:Nat->Nat):Prop where
 hd:bY U p (.bool true::(List.range 16).map λi=>ptr (M i))
 jm:∀i q,i<16->M i=some q->bY U q ((List.range 8).map λj=>ptr (Lf (8*i+j)))
 lx:∀i,i<16->M i=none->∀j,j<8->Lf (8*i+j)=none
 leaf:∀k q,k<128->Lf k=some q->bY U q ((List.range 8).map λj=>.int .i64 ((ow (8*k+j):Nat):Int))
 iM:∀k,k<128->Lf k=none->∀j,j<8->ow (8*k+j)=0
 fp:F p
 fm:∀i q,i<16->M i=some q->F q/\q≠p
 fl:∀k q,k<128->Lf k=some q->F q/\q≠p
 mm:∀i j q,i<16->j<16->M i=some q->M j=some q->i=j
 ll:∀i j q,i<128->j<128->Lf i=some q->Lf j=some q->i=j
 ml:∀i k q,i<16->k<128->M i=some q->Lf k≠some q
def jl (U:Hp)(F:Rg)(p:Nat)(ow:Nat->Nat):Prop:=∃M Lf,kf U F p M Lf ow
theorem kf.move {σ':Hp}{G:Rg}(h:kf U F p M Lf ow)(hb:∀b,b<U.size->F b->σ'[b]?=U[b]?)(hg:∀b,b<U.size->F b->G b):kf σ' G p M Lf ow:=by
 have g:∀{b:Nat} {cs:List Value},bY U b cs->F b->bY σ' b cs:=by
  rintro b cs ⟨e,j⟩ m;exact⟨e,(hb b (bY.lt ⟨e,j⟩) m).trans j⟩
 exact⟨g h.hd h.fp,λi q hi a=>g (h.jm i q hi a) (h.fm i q hi a).1,h.lx,λk q d a=>g (h.leaf k q d a) (h.fl k q d a).1,h.iM,hg p h.hd.lt h.fp,
  λi q hi a=>⟨hg q (h.jm i q hi a).lt (h.fm i q hi a).1,(h.fm i q hi a).2⟩,λk q d a=>⟨hg q (h.leaf k q d a).lt (h.fl k q d a).1,(h.fl k q d a).2⟩,h.mm,h.ll,h.ml⟩
theorem jl.loc:dN λU F=>jl U F p ow:=λU i F G ⟨M,Lf,h⟩ j g=>⟨M,Lf,h.move (λb d a=>(g b d a).2) λb d a=>(g b d a).1⟩
theorem jl.congr {ow':Nat->Nat}(h:jl U F p ow)(he:∀x,x<1024->ow x=ow' x):jl U F p ow':=by
 obtain⟨M,Lf,h⟩:=h;refine⟨M,Lf,h.hd,h.jm,h.lx,λk q d b=>?_,λk d b j a=>?_,h.fp,h.fm,h.fl,h.mm,h.ll,h.ml⟩
 ·have:=h.leaf k q d b;have e:((List.range 8).map λj=>Value.int .i64 ((ow (8*k+j):Nat):Int))=(List.range 8).map λj=>Value.int .i64 ((ow' (8*k+j):Nat):Int):=by
   apply ku;intro j a;rw[ze]at a;rw[he _ O]
  rw[←e];exact this
 ·rw[←he _ O];exact h.iM k d b j a
theorem DH (h:jl U F p ow){R:aO}(hR:R true U):XW.c (aW p) U R:=by
 refine XW.o ?_;unfold XW.v;obtain⟨M,Lf,h⟩:=h;exact bX.intro (cE rfl (bL (h.hd.rB rfl hR)))
theorem rm {a:Addr}{n i sz:Nat}{K:Addr->Prop}(hi:i<n)(hK:K (a.add (i*sz))):oh a n (i:Int) sz K:=⟨O,O,by simpa using hK⟩
theorem kf.rM (h:kf U F p M Lf ow){i:Nat}(hi:i<16){K:Option Addr->Prop}(hK:K ((M i).map λq=>⟨q,0,none⟩)):fX ⟨p,1+i,none⟩ U K:=by
 refine h.hd.pY ?_ hK;rw[Nat.add_comm,AD,K0 _ hi];rfl
theorem kf.rL (h:kf U F p M Lf ow){i j q:Nat}(hi:i<16)(hq:M i=some q)(hj:j<8){K:Option Addr->Prop}(hK:K ((Lf (8*i+j)).map λq=>⟨q,0,none⟩)):fX ⟨q,j,none⟩ U K:=
 (h.jm i q hi hq).pY (K0 _ hj) hK
theorem kf.rN (h:kf U F p M Lf ow){k j q:Nat}(hk:k<128)(hq:Lf k=some q)(hj:j<8){K:Int->Prop}(hK:K ((ow (8*k+j):Nat):Int)):gI .i64 ⟨q,j,none⟩ U K:=
 (h.leaf k q hk hq).uW (K0 _ hj) hK
def qY (ow:Nat->Nat)(x:Int):Nat:=if 0<=x/\x<1024 then ow x.toNat else 0
theorem Rt (h:jl U F p ow)(x:Int){R:aN}(hR:R ((qY ow x:Nat):Int) U):Zq.c (aW p) x U R:=by
 refine Zq.o ?_;unfold Zq.v;have u:=h;obtain⟨M,Lf,h⟩:=h;refine DH u (bX.intro (cD rfl (bX.intro (cP (λm=>cE rfl ?_) λm=>?_))))
 ·have:qY ow x=0:=by unfold qY;rw[zB O]
  rw[this]at hR;exact hR
 refine cP (λw=>?_) λj=>?_
 ·have:qY ow x=0:=by unfold qY;rw[zB O]
  rw[this]at hR;exact hR
 obtain⟨y,rfl⟩:=zc (show 0<=x by omega);have B:y<1024:=by omega
 have s:qY ow (y:Int)=ow y:=by unfold qY;rw[zC O];rfl
 rw[s]at hR;have b:((y:Int).tdiv 8)=((y/8:Nat):Int):=by rw[Ye O];simp
 have A:(((y/8:Nat):Int).tdiv 8)=((y/8/8:Nat):Int):=by rw[Ye O];simp
 have i:(((y/8:Nat):Int).tmod 8)=((y/8%8:Nat):Int):=by rw[Q1 O];simp
 have z:((y:Int).tmod 8)=((y%8:Nat):Int):=by rw[Q1 O];simp
 have d:8*(y/8/8)+y/8%8=y/8:=by omega
 have a:8*(y/8)+y%8=y:=by omega
 refine nz aB (cT b O (nz aB (cT A O (bL ?_))));refine rm O ?_;rw[add_lit,add_lit,zH,nA];refine h.rM O (bX.intro ?_);cases hM:M (y/8/8)with
 | none=>
  refine cE rfl (cE rfl ?_);have g:=h.lx _ O hM (y/8%8) O;rw[d]at g;have:=h.iM _ O g (y%8) O;rw[a]at this;rw[this]at hR;exact hR
 | some q=>
  refine cD rfl (nz aB (cT b O (nz aB (bL ?_))));rw[i];refine rm O ?_;rw[add_lit,zH,nA];refine h.rL O hM O ?_;rw[d];cases hL:Lf (y/8)with
  | none=>
   refine cE rfl ?_;have:=h.iM _ O hL (y%8) O;rw[a]at this;rw[this]at hR;exact hR
  | some r=>
   refine cD rfl (nz aB (cT b O (nz aB (bL ?_))));rw[i];refine rm O ?_;rw[add_lit,zH,nA];refine h.rL O hM O ?_;rw[d,hL];refine nz aB (bL ?_);rw[z];refine rm O ?_;rw[add_lit,zH,nA];refine h.rN O hL O ?_;rw[a];exact hR
theorem PH {R:Option Addr->Hp->Prop}(hR:∀σ' p,aF U σ'->U.size<=p->jl σ' (λb=>U.size<=b) p (λ_=>0)->R (some ⟨p,0,none⟩) σ'):QN.c U R:=by
 refine QN.o ?_;unfold QN.v;refine nw (cs:=[.bool true,.pointer none,.pointer none,.pointer none,.pointer none,.pointer none,.pointer none,.pointer none,.pointer none,.pointer none,.pointer none,.pointer none,.pointer none,.pointer none,.pointer none,.pointer none,.pointer none]) λv d e a=>?_;refine hR v _ e (zD _) ⟨λ_=>none,λ_=>none,a,?_,?_,?_,?_,zD _,?_,?_,?_,?_,?_⟩<;>intros<;>simp_all
theorem N6 (h:kf U F p M Lf ow){i:Nat}(hi:i<16){R:Option Addr->Hp->Prop}
 (hR:∀σ' M' q,Ext F U σ'->M' i=some q->kf σ' (Grow F U) p M' Lf ow->R (some ⟨q,0,none⟩) σ'):WN.c (some ⟨p,1+i,none⟩) U R:=by
 refine WN.o ?_;unfold WN.v;refine Jn.intro (bL (h.rM hi ?_));cases hM:M i with
 | some q=>exact cD rfl (bL (h.rM hi (by rw[hM];exact hR U M q (Ext.refl _ _) hM (h.move (λ_ _ _=>rfl) λ_ _ C=>.inl C))))
 | none=>
  refine cE rfl (nw (cs:=[.pointer none,.pointer none,.pointer none,.pointer none,.pointer none,.pointer none,.pointer none,.pointer none]) λE G e1 A=>bL ?_);have D:=h.hd.lt;refine(e1.bV h.hd id).s0 aE λx o2 u=>?_;have s:(Value.bool true::(List.range 16).map λi=>ptr (M i)).set (1+i) (.pointer (some ⟨U.size,0,none⟩))=.bool true::(List.range 16).map λj=>ptr (eV M i (some U.size) j):=by
   rw[Nat.add_comm,tI,KP]
   congr 1
   apply ku;intro j _;simp only[eV];split<;>rfl
  rw[s]at u;have w:∀{b:Nat} {cs:List Value},bY U b cs->b≠p->bY x b cs:=λz y=>WF o2 (e1.bV z id) y;have B:kf x (Grow F U) p (eV M i (some U.size)) Lf ow:=by
   refine⟨u,λj q m a=>?_,λj m a=>?_,λk q d a=>w (h.leaf k q d a) (h.fl k q d a).2,h.iM,.inl h.fp,λj q m a=>?_,λk q d a=>⟨.inl (h.fl k q d a).1,(h.fl k q d a).2⟩,λj k q m d r g=>?_,h.ll,λj k q m d a=>?_⟩
   ·by_cases hji:j=i
    ·subst hji;rw[ZX]at a;cases a;have y:=h.lx j m hM;have:((List.range 8).map λk=>ptr (Lf (8*j+k)))=[.pointer none,.pointer none,.pointer none,.pointer none,.pointer none,.pointer none,.pointer none,.pointer none]:=by
      have:((List.range 8).map λk=>ptr (Lf (8*j+k)))=(List.range 8).map λ_=>Value.pointer none:=by
       apply ku;intro k d;rw[ze]at d;rw[y k d];rfl
      rw[this];rfl
     rw[this];exact WF o2 A O
    ·rw[QV _ _ hji]at a;exact w (h.jm j q m a) (h.fm j q m a).2
   ·by_cases hji:j=i
    ·subst hji;rw[ZX]at a;cases a
    ·rw[QV _ _ hji]at a;exact h.lx j m a
   ·by_cases hji:j=i
    ·subst hji;rw[ZX]at a;cases a;exact⟨.inr (zD _),O⟩
    ·rw[QV _ _ hji]at a;exact⟨.inl (h.fm j q m a).1,(h.fm j q m a).2⟩
   ·by_cases hji:j=i
    ·by_cases hki:k=i
     ·omega
     ·subst hji;rw[ZX]at r;cases r;rw[QV _ _ hki]at g;have:=(h.jm k _ d g).lt;omega
    ·rw[QV _ _ hji]at r;by_cases hki:k=i
     ·subst hki;rw[ZX]at g;cases g;have:=(h.jm j _ m r).lt;omega
     ·rw[QV _ _ hki]at g;exact h.mm j k q m d r g
   ·by_cases hji:j=i
    ·subst hji;rw[ZX]at a;cases a;intro hl;have:=(h.leaf k _ d hl).lt;omega
    ·rw[QV _ _ hji]at a;exact h.ml j k q m d a
  refine bL (B.rM hi ?_);rw[ZX];exact hR x _ U.size (e1.to.trans (o2.ext.sub λb z=>z▸h.fp)) (ZX _ _ _) B
theorem WgM (h:kf U F p M Lf ow){i j q:Nat}(hi:i<16)(hj:j<8)(hq:M i=some q){R:Option Addr->Hp->Prop}
 (hR:∀σ' L' r,Ext F U σ'->L' (8*i+j)=some r->kf σ' (Grow F U) p M L' ow->R (some ⟨r,0,none⟩) σ'):WS.c (some ⟨q,j,none⟩) U R:=by
 refine WS.o ?_;unfold WS.v;have S:8*i+j<128:=by omega
 refine Jn.intro (bL (h.rL hi hq hj ?_));cases hL:Lf (8*i+j)with
 | some r=>exact cD rfl (bL (h.rL hi hq hj (by rw[hL];exact hR U Lf r (Ext.refl _ _) hL (h.move (λ_ _ _=>rfl) λ_ _ G=>.inl G))))
 | none=>
  refine cE rfl (nw (cs:=[.int .i64 0,.int .i64 0,.int .i64 0,.int .i64 0,.int .i64 0,.int .i64 0,.int .i64 0,.int .i64 0]) λW X e1 N=>bL ?_);have Q:=h.jm i q hi hq;have V:=Q.lt;have G:=h.fm i q hi hq;refine(e1.bV Q id).s0 aE λH o2 y=>?_;have z:∀{b:Nat} {cs:List Value},bY U b cs->b≠q->bY H b cs:=λL J=>WF o2 (e1.bV L id) J;have P:kf H (Grow F U) p M (eV Lf (8*i+j) (some U.size)) ow:=by
   refine⟨z h.hd (Ne.symm G.2),λm x g d=>?_,λm g d C K=>?_,λk r a s=>?_,λk a s=>?_,.inl h.fp,λm x g d=>⟨.inl (h.fm m x g d).1,(h.fm m x g d).2⟩,λk r a s=>?_,h.mm,λk E r A D w u=>?_,λm k x g a d=>?_⟩
   ·by_cases hii:m=i
    ·subst hii;rw[hq]at d;cases d;rw[KP]at y;have:((List.range 8).map (eV (λj=>ptr (Lf (8*m+j))) j (.pointer (some ⟨U.size,0,none⟩))))=(List.range 8).map λk=>ptr (eV Lf (8*m+j) (some U.size) (8*m+k)):=by
      apply ku;intro k _;simp only[eV];by_cases hkj:k=j
      ·subst hkj;simp[ptr]
      ·have:¬8*m+k=8*m+j:=by omega
       simp[hkj,this]
     rw[this]at y;exact y
    ·have B:x≠q:=λe=>by subst e;exact hii (h.mm m i x g hi d hq)
     have:=z (h.jm m x g d) B;have e:((List.range 8).map λk=>ptr (eV Lf (8*i+j) (some U.size) (8*m+k)))=(List.range 8).map λk=>ptr (Lf (8*m+k)):=by
      apply ku;intro k a;rw[ze]at a;rw[QV _ _ O]
     rw[e];exact this
   ·have B:m≠i:=λe=>by subst e;rw[hq]at d;cases d
    rw[QV _ _ O];exact h.lx m g d C K
   ·by_cases hkk:k=8*i+j
    ·subst hkk;rw[ZX]at s;cases s;have J:=h.iM _ S hL;have:((List.range 8).map λC=>Value.int .i64 ((ow (8*(8*i+j)+C):Nat):Int))=[.int .i64 0,.int .i64 0,.int .i64 0,.int .i64 0,.int .i64 0,.int .i64 0,.int .i64 0,.int .i64 0]:=by
      have:((List.range 8).map λC=>Value.int .i64 ((ow (8*(8*i+j)+C):Nat):Int))=(List.range 8).map λ_=>Value.int .i64 0:=by
       apply ku;intro k a;rw[ze]at a;rw[J k a];rfl
      rw[this];rfl
     rw[this];exact WF o2 N O
    ·rw[QV _ _ hkk]at s;exact z (h.leaf k r a s) λe=>by subst e;exact h.ml i k r hi a hq s
   ·by_cases hkk:k=8*i+j
    ·subst hkk;rw[ZX]at s;cases s
    ·rw[QV _ _ hkk]at s;exact h.iM k a s
   ·by_cases hkk:k=8*i+j
    ·subst hkk;rw[ZX]at s;cases s;have:=h.hd.lt;exact⟨.inr (zD _),O⟩
    ·rw[QV _ _ hkk]at s;exact⟨.inl (h.fl k r a s).1,(h.fl k r a s).2⟩
   ·by_cases e1':k=8*i+j
    ·by_cases e2':E=8*i+j
     ·omega
     ·subst e1';rw[ZX]at w;cases w;rw[QV _ _ e2']at u;have:=(h.leaf E _ D u).lt;omega
    ·rw[QV _ _ e1']at w;by_cases e2':E=8*i+j
     ·subst e2';rw[ZX]at u;cases u;have:=(h.leaf k _ A w).lt;omega
     ·rw[QV _ _ e2']at u;exact h.ll k E r A D w u
   ·by_cases hkk:k=8*i+j
    ·subst hkk;rw[ZX];intro e;cases e;have:=(h.jm m _ g d).lt;omega
    ·rw[QV _ _ hkk];exact h.ml m k x g a d
  refine bL (P.rL hi hq hj ?_);rw[ZX];exact hR H _ U.size (e1.to.trans (o2.ext.sub λb L=>L▸G.1)) (ZX _ _ _) P
theorem Wkl (h:kf U F p M Lf ow){k r j no:Nat}(hk:k<128)(hr:Lf k=some r)(hj:j<8){σ':Hp}(ho:Kb U σ' r)(hb:bY σ' r (((List.range 8).map λj=>Value.int .i64 ((ow (8*k+j):Nat):Int)).set j (.int .i64 (no:Int)))) :
 kf σ' F p M Lf (eV ow (8*k+j) no):=by
 refine⟨WF ho h.hd (Ne.symm (h.fl k r hk hr).2),λi q hi x=>WF ho (h.jm i q hi x) λe=>by subst e;exact h.ml i k q hi hk x hr,h.lx,λd s g b=>?_,λd g b u w=>?_,h.fp,h.fm,h.fl,h.mm,h.ll,h.ml⟩
 ·by_cases hkk:d=k
  ·subst hkk;rw[hr]at b;cases b;rw[KP]at hb;have:((List.range 8).map (eV (λj=>Value.int .i64 ((ow (8*d+j):Nat):Int)) j (.int .i64 (no:Int))))=(List.range 8).map λu=>Value.int .i64 ((eV ow (8*d+j) no (8*d+u):Nat):Int):=by
    apply ku;intro a _;simp only[eV];by_cases haj:a=j
    ·subst haj;simp
    ·have:¬8*d+a=8*d+j:=by omega
     simp[haj,this]
   rw[this]at hb;exact hb
  ·have m:s≠r:=λe=>by subst e;exact hkk (h.ll d k s g hk b hr)
   have:=WF ho (h.leaf d s g b) m;have e:((List.range 8).map λa=>Value.int .i64 ((eV ow (8*k+j) no (8*d+a):Nat):Int))=(List.range 8).map λa=>Value.int .i64 ((ow (8*d+a):Nat):Int):=by
    apply ku;intro a ha;rw[ze]at ha;rw[QV _ _ O]
   rw[e];exact this
 ·have m:d≠k:=λe=>by subst e;rw[hr]at b;cases b
  rw[QV _ _ O];exact h.iM d g b u w
theorem RG (h:kf U F p M Lf ow){i j q:Nat}(hi:i<16)(hj:j<8)(hq:M i=some q)(hz:∀a,a<8->ow (8*(8*i+j)+a)=0){σ':Hp}(ho:Kb U σ' q)(hb:bY σ' q (((List.range 8).map λj=>ptr (Lf (8*i+j))).set j (.pointer none))) :
 kf σ' F p M (eV Lf (8*i+j) none) ow:=by
 have G:=h.fm i q hi hq;refine⟨WF ho h.hd (Ne.symm G.2),λd y m b=>?_,λd m b E C=>?_,λk r x g=>?_,λk x g=>?_,h.fp,h.fm,λk r x g=>?_,h.mm,λk D r z B s u=>?_,λd k y m w b=>?_⟩
 ·by_cases hii:d=i
  ·subst hii;rw[hq]at b;cases b;rw[KP]at hb;have:((List.range 8).map (eV (λj=>ptr (Lf (8*d+j))) j (.pointer none)))=(List.range 8).map λk=>ptr (eV Lf (8*d+j) none (8*d+k)):=by
    apply ku;intro k _;simp only[eV];by_cases hkj:k=j
    ·subst hkj;simp[ptr]
    ·have:¬8*d+k=8*d+j:=by omega
     simp[hkj,this]
   rw[this]at hb;exact hb
  ·have A:y≠q:=λe=>by subst e;exact hii (h.mm d i y m hi b hq)
   have:=WF ho (h.jm d y m b) A;have e:((List.range 8).map λk=>ptr (eV Lf (8*i+j) none (8*d+k)))=(List.range 8).map λk=>ptr (Lf (8*d+k)):=by
    apply ku;intro k w;rw[ze]at w;rw[QV _ _ O]
   rw[e];exact this
 ·simp only[eV];split
  ·rfl
  ·exact h.lx d m b E C
 ·by_cases hkk:k=8*i+j
  ·subst hkk;rw[ZX]at g;cases g
  ·rw[QV _ _ hkk]at g;exact WF ho (h.leaf k r x g) λe=>by subst e;exact h.ml i k r hi x hq g
 ·by_cases hkk:k=8*i+j
  ·subst hkk;exact hz
  ·rw[QV _ _ hkk]at g;exact h.iM k x g
 ·by_cases hkk:k=8*i+j
  ·subst hkk;rw[ZX]at g;cases g
  ·rw[QV _ _ hkk]at g;exact h.fl k r x g
 ·by_cases e1':k=8*i+j
  ·subst e1';rw[ZX]at s;cases s
  ·rw[QV _ _ e1']at s;by_cases e2':D=8*i+j
   ·subst e2';rw[ZX]at u;cases u
   ·rw[QV _ _ e2']at u;exact h.ll k D r z B s u
 ·by_cases hkk:k=8*i+j
  ·subst hkk;rw[ZX];intro e;cases e
  ·rw[QV _ _ hkk];exact h.ml d k y m w b
theorem MA (h:kf U F p M Lf ow){i:Nat}(hi:i<16)(hz:∀j,j<8->Lf (8*i+j)=none){σ':Hp}(ho:Kb U σ' p)(hb:bY σ' p ((Value.bool true::(List.range 16).map λi=>ptr (M i)).set (1+i) (.pointer none))) :
 kf σ' F p (eV M i none) Lf ow:=by
 have r:(Value.bool true::(List.range 16).map λi=>ptr (M i)).set (1+i) (.pointer none)=.bool true::(List.range 16).map λj=>ptr (eV M i none j):=by
  rw[Nat.add_comm,tI,KP]
  congr 1
  apply ku;intro j _;simp only[eV];split<;>rfl
 rw[r]at hb;have g:∀{j q},eV M i none j=some q->M j=some q:=λ{j q} d=>by
  by_cases hji:j=i
  ·subst hji;rw[ZX]at d;cases d
  ·rwa [QV _ _ hji]at d
 refine⟨hb,λj q m d=>WF ho (h.jm j q m (g d)) (h.fm j q m (g d)).2,λj m d=>?_,λk q s d=>WF ho (h.leaf k q s d) (h.fl k q s d).2,h.iM,h.fp,λj q m d=>h.fm j q m (g d),h.fl,λa b q u hb w x=>h.mm a b q u hb (g w) (g x),h.ll,λa k q u s d=>h.ml a k q u s (g d)⟩;by_cases hji:j=i
 ·subst hji;exact hz
 ·rw[QV _ _ hji]at d;exact h.lx j m d
theorem Td (h:jl U F p ow){x no:Nat}(hx:x<1024){R:aP}(hR:∀σ',Ext F U σ'->jl σ' (Grow F U) p (eV ow x no)->R σ'):Zs.c (aW p) (x:Int) (no:Int) U R:=by
 refine Zs.o ?_;unfold Zs.v;obtain⟨M,Lf,h⟩:=h;have P:((x:Int).tdiv 8)=((x/8:Nat):Int):=by rw[Ye O];simp
 have t2:(((x/8:Nat):Int).tdiv 8)=((x/8/8:Nat):Int):=by rw[Ye O];simp
 have t3:(((x/8:Nat):Int).tmod 8)=((x/8%8:Nat):Int):=by rw[Q1 O];simp
 have t4:((x:Int).tmod 8)=((x%8:Nat):Int):=by rw[Q1 O];simp
 have hk:8*(x/8/8)+x/8%8=x/8:=by omega
 have W:8*(x/8)+x%8=x:=by omega
 refine nz aB (cT P O (nz aB (cT t2 O (bL ?_))));refine rm O ?_;rw[add_lit,add_lit,zH,nA];refine N6 h O λv1 M1 q e1 B h1=>?_;refine nz aB (cT P O (nz aB (bL ?_)));rw[t3];refine rm O ?_;rw[add_lit,zH,nA];refine WgM h1 O O B λv2 L2 r e2 H h2=>?_;rw[hk]at H;have Q:Ext F U v2:=e1.jC e2;refine nz aB (bL ?_);rw[t4];refine rm O ?_;rw[add_lit,zH,nA];have y:x/8<128:=by omega
 refine(h2.leaf _ r y H).s0 aE λv3 o3 b3=>?_;have A:=Wkl h2 y H O o3 b3;rw[W]at A;have a:∀b,Grow (Grow F U) v1 b->Grow F U b:=λb u=>by
  rcases u with h|h
  ·exact h
  ·exact .inr (ky e1.1 h)
 have G:Ext F U v3:=Q.dW o3.ext λb u=>by subst u;exact a _ (h2.fl _ _ y H).1
 have tail:∀v L4,Ext F U v->kf v (Grow (Grow F U) v1) p M1 L4 (eV ow x no) →
  (bW (some ⟨q,0,none⟩) λi=>fX (i.add 0) v λt42=>fX (i.add 1) v λL=>fX (i.add 2) v λJ=>fX (i.add 3) v λN=>fX (i.add 4) v λK=>fX (i.add 5) v λD=>fX (i.add 6) v λC=>fX (i.add 7) v λE=>
   If (t42.isNone&&(L.isNone&&(J.isNone&&(N.isNone&&(K.isNone&&(D.isNone&&(C.isNone&&(E.isNone&&true)))))))) (Nz 8<|Ar .i64 ((x:Int).tdiv 8) λt47=>Nz 8<|Ar .i64 (t47.tdiv 8) λY=>bW (some ⟨p,0,none⟩) λV=>oh (V.add 1) 16 Y 1 λX=>dQ X (.pointer none) v λv4=>R v4) (R v)):=by
  intro v L4 ev h4;have s:=h4.jm _ q O B;have g:∀j,j<8->((List.range 8).map λj=>ptr (L4 (8*(x/8/8)+j)))[0+j]?=some (.pointer ((L4 (8*(x/8/8)+j)).map λq=>⟨q,0,none⟩)):=λj z=>by rw[zH,K0 _ z];rfl
  refine bL (s.rP (g 0 O) (s.rP (g 1 O) (s.rP (g 2 O) (s.rP (g 3 O) (s.rP (g 4 O) (s.rP (g 5 O) (s.rP (g 6 O) (s.rP (g 7 O) ?_))))))));have fin:∀w,Ext F U w->jl w (Grow (Grow F U) v1) p (eV ow x no)->R w:=λw ew hw=>hR w ew (jl.loc.mono hw λb _ u=>a b u);refine cO (λm=>?_) λ_=>fin v ev ⟨_,_,h4⟩;have hz:∀j,j<8->L4 (8*(x/8/8)+j)=none:=by
   simp only[Option.isNone_map,we,zF,Option.isNone_iff_eq_none]at m;intro j z;obtain⟨a0,S,a2,a3,a4,a5,a6,Z⟩:=m
   match j,z with
   | 0,_=>exact a0
   | 1,_=>exact S
   | 2,_=>exact a2
   | 3,_=>exact a3
   | 4,_=>exact a4
   | 5,_=>exact a5
   | 6,_=>exact a6
   | 7,_=>exact Z
  refine nz aB (cT P O (nz aB (cT t2 O (bL ?_))));refine rm O ?_;rw[add_lit,add_lit,zH,nA];refine h4.hd.s0 aE λv4 o4 b4=>fin v4 (ev.dW o4.ext λb u=>by subst u;exact a _ h4.fp) ⟨_,_,MA h4 O hz o4 b4⟩
 refine Jn.intro (bL ?_);have d:=A.leaf _ r y H;have g:∀j,j<8->((List.range 8).map λj=>Value.int .i64 ((eV ow x no (8*(x/8)+j):Nat):Int))[0+j]?=some (.int .i64 ((eV ow x no (8*(x/8)+j):Nat):Int)):=λj z=>by rw[zH,K0 _ z]
 refine d.rI (g 0 O) (d.rI (g 1 O) (d.rI (g 2 O) (d.rI (g 3 O) (d.rI (g 4 O) (d.rI (g 5 O) (d.rI (g 6 O) (d.rI (g 7 O) ?_)))))));refine cO (λm=>?_) λ_=>tail v3 L2 G A;have hz:∀j,j<8->eV ow x no (8*(8*(x/8/8)+x/8%8)+j)=0:=by
  rw[hk];simp only[yp,we,zF,zU]at m;intro j z;obtain⟨a0,S,a2,a3,a4,a5,a6,Z⟩:=m
  match j,z with
  | 0,_=>exact a0
  | 1,_=>exact S
  | 2,_=>exact a2
  | 3,_=>exact a3
  | 4,_=>exact a4
  | 5,_=>exact a5
  | 6,_=>exact a6
  | 7,_=>exact Z
 refine nz aB (cT P O (nz aB (bL ?_)));rw[t3];refine rm O ?_;rw[add_lit,zH,nA];have s:=A.jm _ q O B;refine s.s0 aE λv5 o5 b5=>?_;exact tail v5 _ (G.dW o5.ext λb u=>by subst u;exact a _ (A.fm _ _ O B).1) (RG A O O B hz o5 b5)
def jN (ow:Nat->Nat)(a m no:Nat):Nat->Nat:=if ZH 1024 a m then λp=>if a<=p/\p<a+m then no else ow p else ow
def vQ (a m:Int):Int:=if ZH 1024 a m then 0 else 1
theorem JH (h:jl U F p ow)(a m:Int)(ha : -1000000000000<=a)(ha2:a<=1000000000000)(no:Nat){R:aN}(h1:ZH 1024 a m=false->R 1 U)
 (hR:∀x y:Nat,a=x->m=y->1<=y->x+y<=1024->∀σ',Ext F U σ'->jl σ' (Grow F U) p (jN ow x y no)->R 0 σ'):YW.c (aW p) a m (no:Int) U R:=by
 refine YW.o ?_;unfold YW.v;have d:¬(0<=a/\1<=m/\m<=1024-a)->R 1 U:=λC=>h1 (by simp only[ZH,←vW];exact zL C);refine DH h (cD rfl (bX.intro (cP (λE=>bX.intro (cE rfl (bX.intro (cE rfl (cE rfl (d O)))))) λE=>?_)));refine bX.intro (cP (λG=>bX.intro (cE rfl (cE rfl (d O)))) λG=>?_);refine bX.intro (cP (λu=>cE rfl (d O)) λu=>ar O O (cP (λD=>d O) λD=>?_));obtain⟨x,rfl⟩:=zc (show 0<=a by omega);obtain⟨y,rfl⟩:=zc (show 0<=m by omega);have g:ZH 1024 (x:Int) (y:Int)=true:=by simp only[ZH,zF,zV];omega
 refine Qz (a:=bO) (λ(t:Int) v=>∃i:Nat,t=((x+i:Nat):Int)/\i<=y/\Ext F U v/\jl v (Grow F U) p (λz=>if x<=z/\z<x+i then no else ow z)) (λt _=>x+y-t.toNat) ⟨0,rfl,O,Ext.refl _ _,?_⟩ ?_
 ·have:(λz=>if x<=z/\z<x+0 then no else ow z)=ow:=by
   funext z;rw[zB O]
  rw[this];exact jl.loc.mono h λb _ j=>.inl j
 rintro t v ⟨i,rfl,hi,e,r⟩;refine cT (m:=x+y) O O (cP (λB=>?_) λw=>?_)
 ·refine Td r O λH A s=>cT (m:=x+(i+1)) O O ⟨⟨i+1,rfl,O,e.jC A,?_⟩,O⟩;refine jl.congr (jl.loc.mono s λb _ j=>?_) λz J=>?_
  ·rcases j with h|h
   ·exact h
   ·exact .inr (ky e.1 h)
  ·simp only[eV];by_cases hzi:z=x+i
   ·subst hzi;rw[zC rfl,zC O]
   ·rw[zB hzi];by_cases hin:x<=z/\z<x+i
    ·rw[zC hin,zC O]
    ·rw[zB hin,zB O]
 ·have:i=y:=by omega
  subst this;refine hR x i rfl rfl O O v e ?_;unfold jN;rw[g];exact r
theorem T4 (h:jl U F p ow)(a m:Nat)(ha:a<=1000000){no:Nat}(hno:1<=no)(hno2:no<=1000){R:aN}(hR:∀σ',Ext F U σ'->jl σ' (Grow F U) p (jN ow a m no)->R (vQ a m) σ'):YA.c (aW p) a m (no:Int) U R:=by
 refine YA.o ?_;unfold YA.v;refine DH h (bX.intro (cE rfl (bX.intro (fZ O (fZ O ?_)))));refine JH h a m O O no (λj=>?_) λx y A z u w σ' e s=>?_
 ·have:=hR U (Ext.refl _ _) (by unfold jN;rw[j];exact jl.loc.mono h λb _ r=>.inl r);unfold vQ at this;rw[j]at this;exact this
 ·have d:a=x:=by omega
  have g:m=y:=by omega
  subst d;subst g;have i:ZH 1024 (a:Int) (m:Int)=true:=by simp only[ZH,zF,zV];omega
  have:=hR σ' e s;unfold vQ at this;rw[i]at this;exact this
theorem Ng (h:jl U F p ow)(a m:Nat)(ha:a<=1000000){R:aN}(hR:∀σ',Ext F U σ'->jl σ' (Grow F U) p (jN ow a m 0)->R (vQ a m) σ'):X0.c (aW p) a m U R:=by
 refine X0.o ?_;unfold X0.v;refine JH h a m O O 0 (λj=>?_) λx y A z u w σ' e s=>?_
 ·have:=hR U (Ext.refl _ _) (by unfold jN;rw[j];exact jl.loc.mono h λb _ r=>.inl r);unfold vQ at this;rw[j]at this;exact this
 ·have d:a=x:=by omega
  have g:m=y:=by omega
  subst d;subst g;have i:ZH 1024 (a:Int) (m:Int)=true:=by simp only[ZH,zF,zV];omega
  have:=hR σ' e s;unfold vQ at this;rw[i]at this;exact this
end Go.Ar
namespace Go.Proofs
open Go.Shelf
def Tryz.iH:Go.Shelf.Ren:=⟨fun|7=>317|10=>340|n=>n,fun|23=>73|26=>3|3=>4|28=>116|0=>0|27=>115|33=>118|4=>4|n=>n,fun|n=>n⟩
theorem Tryz.nv:Go.Proofs.SlLaysZI.n7 Tryz.prog Tryz.iH:={
 mixed:=by kernel_rfl
 f7:=⟨Tryz.f317.name,by decide,Tryz.func317.trans (congrArg some (by kernel_rfl))⟩
 f10:=⟨Tryz.f340.name,by decide,Tryz.func340.trans (congrArg some (by kernel_rfl))⟩
 t0:=Tryz.underlying0
 a0:=Tryz.isAgg0
 z0:=Tryz.sizeOf0
 v0:=Tryz.zeroValue0
 t4:=Tryz.underlying4
 a4:=Tryz.isAgg4
 z4:=Tryz.sizeOf4
 v4:=Tryz.zeroValue4
 t23:=Tryz.underlying73
 a23:=Tryz.isAgg73
 z23:=Tryz.sizeOf73
 v23:=Tryz.zeroValue73
 t26:=Tryz.underlying3
 a26:=Tryz.isAgg3
 z26:=Tryz.sizeOf3
 v26:=Tryz.zeroValue3
 t27:=Tryz.underlying115
 a27:=Tryz.isAgg115
 z27:=Tryz.sizeOf115
 v27:=Tryz.zeroValue115
 t28:=Tryz.underlying116
 a28:=Tryz.isAgg116
 z28:=Tryz.sizeOf116
 v28:=Tryz.zeroValue116
 t33:=Tryz.underlying118
 a33:=Tryz.isAgg118
 z33:=Tryz.sizeOf118
 v33:=Tryz.zeroValue118}
def Tryz.jG:Go.Shelf.Ren:=⟨fun|6=>66|8=>111|9=>112|11=>158|13=>160|12=>159|23=>224|24=>225|14=>215|15=>216|16=>217|17=>218|18=>219|19=>220|20=>221|21=>222|22=>223|25=>275|26=>276|27=>277|28=>278|29=>279|30=>280|31=>313|n=>n,fun|26=>3|28=>116|24=>31|0=>0|3=>3|37=>230|48=>311|50=>313|4=>4|40=>304|39=>303|45=>171|5=>5|9=>9|51=>353|55=>357|57=>383|58=>384|33=>118|n=>n,fun|n=>n⟩
theorem Tryz.rQ:Go.Proofs.SlLaysZI.n6 Tryz.prog Tryz.jG:={
 mixed:=by kernel_rfl
 f6:=⟨Tryz.f66.name,by decide,Tryz.func66.trans (congrArg some (by kernel_rfl))⟩
 f8:=⟨Tryz.f111.name,by decide,Tryz.func111.trans (congrArg some (by kernel_rfl))⟩
 f11:=⟨Tryz.f158.name,by decide,Tryz.func158.trans (congrArg some (by kernel_rfl))⟩
 t0:=Tryz.underlying0
 a0:=Tryz.isAgg0
 z0:=Tryz.sizeOf0
 v0:=Tryz.zeroValue0
 t24:=Tryz.underlying31
 a24:=Tryz.isAgg31
 z24:=Tryz.sizeOf31
 v24:=Tryz.zeroValue31
 t26:=Tryz.underlying3
 a26:=Tryz.isAgg3
 z26:=Tryz.sizeOf3
 v26:=Tryz.zeroValue3
 t28:=Tryz.underlying116
 a28:=Tryz.isAgg116
 z28:=Tryz.sizeOf116
 v28:=Tryz.zeroValue116
 i26:=by kernel_rfl}
def Tryz.nX:Go.Shelf.Ren:=⟨fun|8=>111|11=>158|n=>n,fun|26=>3|28=>116|24=>31|0=>0|33=>118|4=>4|n=>n,fun|n=>n⟩
theorem Tryz.xN:Go.Proofs.SlLaysZI.n8 Tryz.prog Tryz.nX:={
 mixed:=by kernel_rfl
 f8:=⟨Tryz.f111.name,by decide,Tryz.func111.trans (congrArg some (by kernel_rfl))⟩
 f11:=⟨Tryz.f158.name,by decide,Tryz.func158.trans (congrArg some (by kernel_rfl))⟩
 t0:=Tryz.underlying0
 a0:=Tryz.isAgg0
 z0:=Tryz.sizeOf0
 v0:=Tryz.zeroValue0
 t24:=Tryz.underlying31
 a24:=Tryz.isAgg31
 z24:=Tryz.sizeOf31
 v24:=Tryz.zeroValue31
 t26:=Tryz.underlying3
 a26:=Tryz.isAgg3
 z26:=Tryz.sizeOf3
 v26:=Tryz.zeroValue3
 t28:=Tryz.underlying116
 a28:=Tryz.isAgg116
 z28:=Tryz.sizeOf116
 v28:=Tryz.zeroValue116
 i26:=by kernel_rfl}
def Tryz.ny:Go.Shelf.Ren:=⟨fun|5=>112|8=>160|7=>159|19=>224|20=>225|10=>215|11=>216|12=>217|13=>218|14=>219|15=>220|16=>221|17=>222|18=>223|30=>275|31=>276|32=>277|33=>278|34=>279|35=>280|40=>313|n=>n,fun|23=>31|25=>3|3=>3|32=>230|22=>31|0=>0|44=>311|46=>313|4=>4|36=>304|35=>303|41=>171|5=>5|9=>9|53=>353|57=>357|63=>383|64=>384|n=>n,fun|n=>n⟩
theorem Tryz.qe:Go.Proofs.SlLaysM.n5 Tryz.prog Tryz.ny:={
 mixed:=by kernel_rfl
 f5:=⟨Tryz.f112.name,by decide,Tryz.func112.trans (congrArg some (by kernel_rfl))⟩
 f7:=⟨Tryz.f159.name,by decide,Tryz.func159.trans (congrArg some (by kernel_rfl))⟩
 f8:=Tryz.func160.trans (congrArg some (by kernel_rfl))
 f10:=⟨Tryz.f215.name,by decide,Tryz.func215.trans (congrArg some (by kernel_rfl))⟩
 f11:=⟨Tryz.f216.name,by decide,Tryz.func216.trans (congrArg some (by kernel_rfl))⟩
 f12:=⟨Tryz.f217.name,by decide,Tryz.func217.trans (congrArg some (by kernel_rfl))⟩
 f13:=⟨Tryz.f218.name,by decide,Tryz.func218.trans (congrArg some (by kernel_rfl))⟩
 f14:=⟨Tryz.f219.name,by decide,Tryz.func219.trans (congrArg some (by kernel_rfl))⟩
 f15:=⟨Tryz.f220.name,by decide,Tryz.func220.trans (congrArg some (by kernel_rfl))⟩
 f16:=⟨Tryz.f221.name,by decide,Tryz.func221.trans (congrArg some (by kernel_rfl))⟩
 f17:=⟨Tryz.f222.name,by decide,Tryz.func222.trans (congrArg some (by kernel_rfl))⟩
 f18:=⟨Tryz.f223.name,by decide,Tryz.func223.trans (congrArg some (by kernel_rfl))⟩
 f19:=Tryz.func224.trans (congrArg some (by kernel_rfl))
 f20:=Tryz.func225.trans (congrArg some (by kernel_rfl))
 f30:=⟨Tryz.f275.name,by decide,Tryz.func275.trans (congrArg some (by kernel_rfl))⟩
 f31:=Tryz.func276.trans (congrArg some (by kernel_rfl))
 f32:=Tryz.func277.trans (congrArg some (by kernel_rfl))
 f33:=⟨Tryz.f278.name,by decide,Tryz.func278.trans (congrArg some (by kernel_rfl))⟩
 f34:=⟨Tryz.f279.name,by decide,Tryz.func279.trans (congrArg some (by kernel_rfl))⟩
 f35:=⟨Tryz.f280.name,by decide,Tryz.func280.trans (congrArg some (by kernel_rfl))⟩
 f40:=⟨Tryz.f313.name,by decide,Tryz.func313.trans (congrArg some (by kernel_rfl))⟩
 t0:=Tryz.underlying0
 a0:=Tryz.isAgg0
 z0:=Tryz.sizeOf0
 v0:=Tryz.zeroValue0
 t3:=Tryz.underlying3
 a3:=Tryz.isAgg3
 z3:=Tryz.sizeOf3
 v3:=Tryz.zeroValue3
 t4:=Tryz.underlying4
 a4:=Tryz.isAgg4
 z4:=Tryz.sizeOf4
 v4:=Tryz.zeroValue4
 t5:=Tryz.underlying5
 a5:=Tryz.isAgg5
 z5:=Tryz.sizeOf5
 v5:=Tryz.zeroValue5
 t9:=Tryz.underlying9
 a9:=Tryz.isAgg9
 z9:=Tryz.sizeOf9
 v9:=Tryz.zeroValue9
 t22:=Tryz.underlying31
 a22:=Tryz.isAgg31
 z22:=Tryz.sizeOf31
 v22:=Tryz.zeroValue31
 t23:=Tryz.underlying31
 a23:=Tryz.isAgg31
 z23:=Tryz.sizeOf31
 v23:=Tryz.zeroValue31
 t25:=Tryz.underlying3
 a25:=Tryz.isAgg3
 z25:=Tryz.sizeOf3
 v25:=Tryz.zeroValue3
 t32:=Tryz.underlying230
 a32:=Tryz.isAgg230
 z32:=Tryz.sizeOf230
 v32:=Tryz.zeroValue230
 t35:=Tryz.underlying303
 a35:=Tryz.isAgg303
 z35:=Tryz.sizeOf303
 v35:=Tryz.zeroValue303
 t36:=Tryz.underlying304
 a36:=Tryz.isAgg304
 z36:=Tryz.sizeOf304
 v36:=Tryz.zeroValue304
 t41:=Tryz.underlying171
 a41:=Tryz.isAgg171
 z41:=Tryz.sizeOf171
 v41:=Tryz.zeroValue171
 t44:=Tryz.underlying311
 a44:=Tryz.isAgg311
 z44:=Tryz.sizeOf311
 v44:=Tryz.zeroValue311
 t46:=Tryz.underlying313
 a46:=Tryz.isAgg313
 z46:=Tryz.sizeOf313
 v46:=Tryz.zeroValue313
 t53:=Tryz.underlying353
 a53:=Tryz.isAgg353
 z53:=Tryz.sizeOf353
 v53:=Tryz.zeroValue353
 t57:=Tryz.underlying357
 a57:=Tryz.isAgg357
 z57:=Tryz.sizeOf357
 v57:=Tryz.zeroValue357
 t63:=Tryz.underlying383
 a63:=Tryz.isAgg383
 z63:=Tryz.sizeOf383
 v63:=Tryz.zeroValue383
 t64:=Tryz.underlying384
 a64:=Tryz.isAgg384
 z64:=Tryz.sizeOf384
 v64:=Tryz.zeroValue384}
end Go.Proofs
namespace Go.Bu
open Go Go.Vc Go.Proofs Go.RowKit Go.Maps Go.Sort Go.Shelf
variable {U:Hp}
def lb (B:Nat)(h:Hp)(s:Sl)(xs:List Value):Prop:=
 s.len=xs.length/\(xs=[]/\s.a=none\/∃b cs,B<=b/\s.a=some ⟨b,0,none⟩/\bY h b cs/\∀j,j<xs.length->cs[j]?=xs[j]?)
theorem lb.bS {B:Nat}{h h':Hp}{s:Sl}{xs:List Value}{F:Nat->Prop}(hs:lb B h s xs)(e:Ext F h h')(hF:∀b,F b->b<B):lb B h' s xs:=by
 refine⟨hs.1,hs.2.imp id ?_⟩;rintro⟨b,cs,hb,ha,hk,hc⟩;exact⟨b,cs,hb,ha,e.bV hk (λa=>by have:=hF b a;omega),hc⟩
theorem lb.bP {B:Nat}{h h':Hp}{s:Sl}{xs:List Value}(hs:lb B h s xs)(e:aF h h'):lb B h' s xs:=hs.bS e λ_ h=>h.elim
theorem lb.mono {B B':Nat}{h:Hp}{s:Sl}{xs:List Value}(hs:lb B h s xs)(hB:B'<=B):lb B' h s xs:=by
 refine⟨hs.1,hs.2.imp id ?_⟩;rintro⟨b,cs,hb,ha,hk,hc⟩;exact⟨b,cs,O,ha,hk,hc⟩
theorem lb.lL {B:Nat}{h:Hp}{s:Sl}{xs:List Int}(hs:lb B h s (xs.map (Value.int .i64))){i:Nat}{x:Int}(hx:xs[i]?=some x){K:Int->Prop}(hK:K x) :
 Ix s.a s.len (i:Int) 1 λa=>gI .i64 a h K:=by
 have hi:i<xs.length:=(cY.1 hx).1;rcases hs.2 with⟨h0,_⟩|⟨b,cs,_,ha,hb,hc⟩
 ·simp at h0;subst h0;simp at hi
 ·rw[ha];refine ix O (by rw[hs.1];simp;omega) ?_;rw[add_lit];refine oD ?_ hK;rw[hb.cell];have:=hc i (by simpa using hi);simpa[hx]using this
theorem Uf {w w':World}(h:Below w.heap.size w w'):aF w.heap w'.heap:=⟨h.size,λb a _=>h.block b a⟩
theorem HN {n:Nat}{w w':World}(h:Below n w w'):Xx w w':=⟨h.os,h.tape,h.output,h.size⟩
def vS:Nat:=Tryz.iH.f 10
def FF:Nat:=Tryz.iH.t 23
theorem Sk (m:Option Nat){R:Fv->Hp->Prop}(hR:R ⟨vS,#[],#[.pointer (some ⟨U.size,0,none⟩)]⟩ (U.push (.cells #[.map m] FF (0,0)))) :
 QR.c m U R:=by
 rintro w rfl;refine(callsIn_wide.1 (AnyZI.keys_in Tryz.nv Fence.wide 5 trivial rfl m w)).mono ?_;rintro e a ⟨rfl,rfl⟩;exact⟨⟨rfl,rfl,rfl,sH (by show _<(w.heap.push _).size;simp)⟩,[.func (.func vS) #[] #[.pointer (some ⟨w.heap.size,0,none⟩)]],rfl,⟨vS,#[],#[.pointer (some ⟨w.heap.size,0,none⟩)]⟩,rfl,hR⟩
def jx (x:Int):Prop:=-9223372036854775808<=x/\x<=9223372036854775807
theorem VO {P:Program}{kt:Nat}(hk:P.underlying kt=some (.int .i64)){w:World}{m:Nat}{c:CK}{B:List (Int×c.T)}(h:dK w.heap m .i64 c B)(hb:∀x∈B,jx x.1)(hs:B.length<=1000000) :
 ∃D:DataW Unit,w.ownsMap P kt (λ_=>some (.nil,[])) m B.length D/\(intKeys D).Perm (B.map (·.1))/\Maps.size D=B.length:=by
 obtain⟨d,C,G,u,K,J,F⟩:=h;have i:d.size=B.length:=by simpa using congrArg List.length u
 have j:∀e∈d.toList,∃x:Int,e.key=.int .i64 x/\jx x:=by
  intro e hme;have:(e.key,e.val)∈d.toList.map (λe=>(e.key,e.val)):=A8 hme;rw[u]at this;obtain⟨y,H,e2⟩:=zE.1 this;simp only[Prod.mk.injEq]at e2;exact⟨y.1,e2.1.symm,hb y H⟩
 have wf:∀x:Int,jx x->(Lit.int .i64 x).wf=true:=by
  rintro x ⟨s,M⟩;simp[Lit.wf,IntKind.min,IntKind.max,IntKind.bits,IntKind.signed];omega
 have r:∀e∈d.toList,∃x:Int,e.key=.int .i64 x/\Go.WideElems.rd P kt (λ_=>some ((.nil:DataW Unit),[])) e=some (.int .i64 x,.nil):=by
  intro e hme;obtain⟨x,g,hi⟩:=j e hme;refine⟨x,g,?_⟩;simp[Go.WideElems.rd,keyOf,hk,g,mapKey,wf x hi]
 refine⟨.map ((d.toList.map (Go.WideElems.rg P kt (λ_=>some (.nil,[])))).foldr DataW.insert []),⟨d,C,G,⟨?_,⟨λx g=>F x g,?_,?_⟩,λx g=>?_⟩,O,rfl⟩,?_,?_⟩
 ·have:1000000<=maxLen:=by unfold maxLen;omega
  omega
 ·exact J.imp (λh=>xU h)
 ·have A:d.toList.map (·.key)=(B.map (·.1)).map (Value.int .i64):=by
   have:=congrArg (List.map Prod.fst) u;simpa[lO,Function.comp_def]using this
  rw[A];exact List.Pairwise.map _ (λa b (E:a≠b) z=>E (by simpa using z)) K
 ·obtain⟨N,_,s⟩:=r x g;exact⟨_,s⟩
 ·simp only[intKeys];refine((Go.WideShapes.sorted_perm _).map _).trans ?_;rw[lO];have:d.toList.map ((λp=>Go.intOf p.1)∘Go.WideElems.rg P kt (λ_=>some ((.nil:DataW Unit),[])))=B.map (·.1):=by
   have A:d.toList.map (·.key)=(B.map (·.1)).map (Value.int .i64):=by
    have:=congrArg (List.map Prod.fst) u;simpa[lO,Function.comp_def]using this
   have L:d.toList.map ((λp=>Go.intOf p.1)∘Go.WideElems.rg P kt (λ_=>some ((.nil:DataW Unit),[])))=(d.toList.map (·.key)).map (λv=>match v with | .int _ x=>x|_=>0):=by
    rw[lO];apply ku;intro e hme;obtain⟨x,g,s⟩:=r e hme;simp[Function.comp,Go.WideElems.rg,s,g,Go.intOf]
   rw[L,A,lO]
   conv=>rhs;rw[←wj (B.map (·.1))]
   rfl
  rw[this]
 ·simp only[Maps.size];rw[(Go.WideShapes.sorted_perm _).length_eq];simp[i]
theorem HZ {w:World}{B e n:Nat}{v:Value}{xs:List Value}(h:w.ownsRow B e 1 v n xs):∃s:Sl,v=.slice s.a s.len s.cap/\lb B w.heap s xs:=by
 obtain⟨b,h⟩:=h;rcases h with⟨rfl,rfl⟩|⟨g,cap,cur,rfl,hb,hg,_,_,hcs,ht⟩
 ·exact⟨⟨none,0,0⟩,rfl,by simp at b;simp[b],.inl ⟨by simpa using b,rfl⟩⟩
 ·refine⟨⟨some ⟨g,0,none⟩,n,cap⟩,rfl,by simp at b;simp[b],.inr ⟨g,cur.toList,hb,rfl,⟨e,by simpa using hg⟩,λj d=>?_⟩⟩;rw[←ht,zm,zC O]
theorem OZ {w:World}{c m:Nat}{B:List (Int×Bool)}(hc:cell w.heap ⟨c,0,none⟩=some (.map (some m)))(hm:dK w.heap m .i64 .b B)(hb:∀x∈B,jx x.1)(hs:B.length<=1000000)(n:Nat)(hn:1<=n) :
 SeqGives Fence.wide n Tryz.prog vS #[.pointer (some ⟨c,0,none⟩)] encZ (λss=>ss.Perm (B.map (·.1))) B.length w:=by
 obtain⟨D,j,g,a⟩:=VO (P:=Tryz.prog) Tryz.nv.t26 hm hb hs;have d:c<w.heap.size:=by
  unfold cell at hc;split at hc
  ·rename_i h;exact(kg.1 h).1
  ·cases hc
 have:=AnyZI.keys_gives (ρ:=Tryz.iH) {Tryz.nv with} Fence.wide n trivial rfl hn c m B.length D w d hc j;intro l J W hW hJ hY h0;rw[a]at this;refine(this l J W hW hJ hY h0).mono ?_;rintro e W' ⟨r,ss,i,p⟩;exact⟨r,ss,i.trans g,p⟩
theorem yR (m:Nat):AnyZI.SortsIn Tryz.prog Tryz.jG Fence.wide m:=
 ⟨λbV d cap g W i a b=>callsIn_wide.2 (AnyM.slices_Sort_int Tryz.qe bV d cap g W i a b),
  λp cap W=>callsIn_wide.2 (AnyM.slices_Sort_int_none Tryz.qe p cap W)⟩
theorem SF {c m:Nat}{B:List (Int×Bool)}(hc:cell U ⟨c,0,none⟩=some (.map (some m)))(hm:dK U m .i64 .b B)(hb:∀x∈B,jx x.1)(hs:B.length<=1000000){R:Sl->Hp->Prop}
 (hR:∀(s:Sl) (σ':Hp) (ss:List Int),aF U σ'->ss.Perm (B.map (·.1))->lb U.size σ' s (ss.map (Value.int .i64))->R s σ') :
 VT.c ⟨vS,#[],#[.pointer (some ⟨c,0,none⟩)]⟩ U R:=by
 rintro w rfl;have d:=OZ hc hm hb hs 3 O;have j:B.length<=maxLen:=by unfold maxLen;omega
 have y:=AnyZI.collect_in Tryz.xN Fence.wide 5 trivial trivial rfl O vS #[.pointer (some ⟨c,0,none⟩)] trivial (Tryz.nv.f10.enters rfl) _ _ j O _ d;refine(callsIn_wide.1 y).mono ?_;rintro e z ⟨v,ss,rfl,u,g,r,i⟩;obtain⟨s,rfl,p⟩:=HZ g;exact⟨HN i,[.slice s.a s.len s.cap],rfl,s,rfl,hR s _ ss (Uf i) u p⟩
end Go.Bu
namespace Go.Bu
open Go Go.Vc Go.Proofs
variable {U:Hp}{p n sb:Nat}{S:Nat->Bool}{ms:List Nat}
theorem Nf {B:Nat}{s:Sl}{xs:List Int}(hs:lb B U s (xs.map (Value.int .i64)))(hl:xs.length<1000000000){m:Int}(hm:m∈xs)(hle:∀y∈xs,m<=y){R:aN}(hR:R m U):W7.c s U R:=by
 refine W7.o ?_;unfold W7.v;have u:s.len=xs.length:=by simpa using hs.1
 have g:0<xs.length:=List.length_pos_of_mem hm;refine Jn.intro (fZ O ?_);have w:xs[0]?=some xs[0]:=by simp[g]
 refine hs.lL (i:=0) w ?_;refine UI (a:=bO) (bb:=bO) (λ(c t:Int) z=>∃k:Nat,t=(k:Int)/\k<=xs.length/\z=U/\c∈xs/\∀(j:Nat) (y:Int),j<k->xs[j]?=some y->c<=y) (λ_ t _=>xs.length-t.toNat)
  ⟨1,rfl,O,rfl,kD _,λj y p d=>?_⟩ ?_
 ·have:j=0:=by omega
  subst this;rw[w]at d;cases d;omega
 rintro c t z ⟨k,rfl,G,rfl,A,b⟩;refine cP (λE=>?_) (λC=>?_)
 ·have r:k<xs.length:=by omega
  have x:xs[k]?=some xs[k]:=by simp[r]
  refine hs.lL x (cT (m:=k+1) O O ⟨⟨k+1,rfl,O,rfl,?_,λj y p d=>?_⟩,O⟩)
  ·split
   ·exact kD _
   ·exact A
  ·by_cases e:j=k
   ·subst e;rw[x]at d;cases d;split<;>omega
   ·have:=b j y O d;split<;>omega
 ·have:k=xs.length:=by omega
  subst this;obtain⟨j,p,e⟩:=wa hm;have D:=b j m p (by simp[p,e]);have F:=hle c A;have:c=m:=Int.le_antisymm D F;rw[this];exact hR
def WW (n:Nat)(S:Nat->Bool)(k:Nat):List Nat:=((List.range n).filter (can S k)).map (· * 2^k)
theorem ML (hb:Bounded S n){k q:Nat}(hc:can S k q=true):q<n:=by
 have:=Qd hb (Z2.1 hc).1;have a:=k5 k;have b:q<=q*2^k:=Nat.le_mul_of_pos_right _ a;omega
theorem Ks (hb:Bounded S n){k x:Nat}:x∈WW n S k↔∃q,x=q*2^k/\can S k q=true:=by
 simp only[WW,zE,zJ,ze];constructor
 ·rintro⟨q,⟨_,hc⟩,rfl⟩;exact⟨q,rfl,hc⟩
 ·rintro⟨q,rfl,hc⟩;exact⟨q,⟨ML hb hc,hc⟩,rfl⟩
theorem Gg (n:Nat)(S:Nat->Bool)(k:Nat):(WW n S k).Pairwise (· < ·):=by
 unfold WW;refine List.Pairwise.map _ (λa b h=>Nat.mul_lt_mul_of_pos_right h (k5 k)) ?_;exact List.Pairwise.sublist u6 List.pairwise_lt_range
theorem Gy (n:Nat)(S:Nat->Bool)(k:Nat):(WW n S k).length=many n S k:=by
 simp[WW,many,Bb]
theorem WhG {k:Nat}{B:List (Int×Bool)}(hK:Keys S k B)(hn:(B.map (·.1)).Nodup)(hb:Bounded S n):(B.map (·.1)).Perm ((WW n S k).map λ(x:Nat)=>(x:Int)):=by
 rw[Bm hn]
 ·intro x;simp only[zE];constructor
  ·rintro⟨⟨x1,x2⟩,hm,rfl⟩;obtain⟨_,q,i,d⟩:=hK.1 x1 x2 hm;exact⟨_,(Ks hb).2 ⟨q,rfl,d⟩,i.symm⟩
  ·rintro⟨y,hy,rfl⟩;obtain⟨q,rfl,d⟩:=(Ks hb).1 hy;exact⟨_,hK.2 q d,rfl⟩
 ·refine List.Pairwise.map _ (λa b (g:a<b)=>?_) (Gg n S k);intro e;have:a=b:=by exact_mod_cast e
  omega
theorem LQ {k:Nat}{B:List (Int×Bool)}(hK:Keys S k B)(hb:Bounded S n)(hn:n<=1024):∀x∈B,jx x.1:=by
 rintro⟨x,v⟩ hx;obtain⟨_,q,rfl,a⟩:=hK.1 x v hx;have:=Qd hb (Z2.1 a).1;have:=k5 k;constructor<;>simp only<;>omega
theorem TR (h:BH U p n S sb ms){k:Nat}(hk:ms.length<=k):WW n S k=[]:=by
 rw[List.eq_nil_iff_forall_not_mem];intro x hx;obtain⟨q,_,a⟩:=(Ks h.jD).1 hx;have:=h.fits (Qd h.jD (Z2.1 a).1);omega
theorem MQ {h:Hp}{v:Value}{e:Nat}:cell (h.push (.cells #[v] e (0,0))) ⟨h.size,0,none⟩=some v:=by simp[cell]
theorem HW (h:Hp)(o:Obj):aF h (h.push o):=Ext.push _ _ _
def fA (a:Int):Bool:=(List.range 11).any λk=>a==((2^k:Nat):Int)
theorem Ox:(List.range 1025).all (λa=>a==0||((a &&& (a-1))==0)==((List.range 11).any λk=>a==2^k))=true:=by decide +kernel
theorem HD {a:Nat}(h1:1<=a)(h2:a<=1024):((a &&& (a-1))==0)=((List.range 11).any λk=>a==2^k):=by
 have:=kx.1 Ox a (ze.2 O);simp only[nB,zU]at this;rcases this with h|h
 ·omega
 ·exact h
theorem VN (a:Nat):fA (a:Int)=((List.range 11).any λk=>a==2^k):=by
 unfold fA
 congr 1
 funext k
 rw[kW];simp only[zU];exact⟨λh=>by exact_mod_cast h,λh=>by exact_mod_cast h⟩
def fQ (aG align:Int):Bool:=decide (1<=aG)&&(decide (aG<=1024)&&(decide (1<=align)&&(decide (align<=1024)&&fA align)))
def Z5 (n:Nat)(S:Nat->Bool)(aG align:Nat):Nat->Option Nat
 | 0=>none
 | k+1=>match Z5 n S aG align k with
  | some x=>some x
  | none=>if aG<=2^k/\align<=2^k then(WW n S k).head? else none
def ZD (n:Nat)(S:Nat->Bool)(aG align:Nat):Option Nat:=Z5 n S aG align 11
def iW (n:Nat)(S:Nat->Bool)(aG align:Int):Int:=if fQ aG align then(match ZD n S aG.toNat align.toNat with|some _=>0|none=>6)else 1
def jj (n:Nat)(S:Nat->Bool)(aG align:Int):Nat:=if fQ aG align then(match ZD n S aG.toNat align.toNat with|some x=>x|none=>0)else 0
def ji (n:Nat)(S:Nat->Bool)(aG align:Int):Nat->Bool:=if fQ aG align then(match ZD n S aG.toNat align.toNat with|some x=>take S x (x+aG.toNat)|none=>S)else S
theorem WcF {n:Nat}{S:Nat->Bool}{m a k x:Nat}(h:Z5 n S m a k=some x):∀j,k<=j->Z5 n S m a j=some x:=by
 intro j hj
 induction j with
 | zero=>
  have:k=0:=by omega
  subst this;exact h
 | succ j ih=>
  by_cases e:k=j+1
  ·subst e;exact h
  ·simp only[Z5,ih O]
theorem Mb (h:BH U p n S sb ms){m a:Nat}(hn:Z5 n S m a ms.length=none):∀j,ms.length<=j->Z5 n S m a j=none:=by
 intro j hj
 induction j with
 | zero=>
  have:ms.length=0:=by omega
  rw[this]at hn;exact hn
 | succ j ih=>
  by_cases e:ms.length=j+1
  ·rw[←e];exact hn
  ·simp only[Z5,ih O,TR h (show ms.length<=j by omega)];simp
theorem χ {k:Nat}(hpos:0<many n S k):∃x rest,WW n S k=x::rest:=by
 rw[←Gy]at hpos
 match h:WW n S k with
 | []=>rw[h]at hpos;simp at hpos
 | x::r=>exact⟨x,r,rfl⟩
theorem ld (h:BH U p n S sb ms)(aG align:Int){R:Int->Int->Hp->Prop}
 (hR:∀σ',Ext (· ∈ ms) U σ'->BH σ' p n (ji n S aG align) sb ms->R ((jj n S aG align:Nat):Int) (iW n S aG align) σ'):XZ.c (aW p) aG align U R:=by
 refine XZ.o ?_;unfold XZ.v;have hn2:=h.n2;have hl:=h.len;have M:fQ aG align=false->R 0 1 U:=λe=>by
  have:=hR U (Ext.refl _ _);simp only[ji,jj,iW,e,za,jX]at this;exact this h
 have g:¬(1<=aG/\aG<=1024/\1<=align/\align<=1024)->R 0 1 U:=λhn=>M (by
  simp only[fQ,←Bool.and_assoc,←vW];rw[zL];rfl;omega)
 refine Eh h (cD rfl (bX.intro ?_));refine cP (λh1=>bX.intro (cE rfl (bX.intro (cE rfl (bX.intro (cE rfl (cE rfl (g O)))))))) λh1=>?_;refine bX.intro (cP (λh2=>bX.intro (cE rfl (bX.intro (cE rfl (cE rfl (g O)))))) λh2=>?_);refine bX.intro (cP (λZ=>bX.intro (cE rfl (cE rfl (g O)))) λZ=>?_);refine bX.intro (cP (λh4=>cE rfl (g O)) λh4=>?_);obtain⟨a,rfl⟩:=zc (show 0<=align by omega);obtain⟨m,rfl⟩:=zc (show 0<=aG by omega);refine cT (m:=a-1) O O ?_;rw[je O O];have G:((((a &&& (a-1):Nat):Int)) != 0) = !fA (a:Int):=by
  rw[VN,←HD O O];simp only[bne,Bool.not_inj_iff];rw[kW];simp only[zU];omega
 rw[G];cases Q:fA (a:Int)
 ·refine cE rfl (M ?_);simp[fQ,Q]
 refine cD rfl ?_;have J:fQ (m:Int) (a:Int)=true:=by
  simp only[fQ,Q,we,zF,zV];omega
 refine bL (h.rB λcap=>?_);refine Qz (a:=bO) (λt F=>∃k:Nat,t=(k:Int)/\k<=ms.length/\F=U/\Z5 n S m a k=none) (λt _=>ms.length-t.toNat) ⟨0,rfl,O,rfl,rfl⟩ ?_;rintro t F ⟨k,rfl,hk,rfl,r⟩;refine cP (λhlt=>?_) (λX=>?_)
 ·simp only at hlt;obtain⟨mm,hm⟩:=h.get (k:=k) O;refine h.rM hm (mJ O (bX.intro ?_));have next:Z5 n S m a (k+1)=none->Ar .i64 ((k:Int)+1) λL=>(∃k:Nat,L=(k:Int)/\k<=ms.length/\F=F/\Z5 n S m a k=none)/\ms.length-L.toNat<ms.length-(k:Int).toNat:=
   λH=>cT (m:=k+1) O O ⟨⟨k+1,rfl,O,rfl,H⟩,O⟩
  refine cP (λK=>?_) (λV=>cD rfl (next ?_))
  ·have j:m<=2^k/\a<=2^k:=by
    have:((if(a:Int)>(m:Int)then(a:Int)else(m:Int))<=((2^k:Nat):Int)):=K
    split at this<;>omega
   refine h.lA hm ?_;refine cP (λhpos=>?_) (λhz=>next ?_)
   ·have E:0<many n S k:=by omega
    obtain⟨x,rest,P⟩:=χ E;obtain⟨q,rfl,hc⟩:=(Ks h.jD (k:=k) (x:=x)).1 (by rw[P];simp);have C:ZD n S m a=some (q*2^k):=by
     refine WcF (k:=k+1) ?_ 11 O;simp only[Z5,r,zC j,P,List.head?_cons]
    have hfb:=Qd h.jD (Z2.1 hc).1;obtain⟨B,hB,A⟩:=h.maps k mm hm;have d:=IY A hB.nodup h.jD;have hle:B.length<=1024:=by
     rw[d];have:=List.countP_le_length (p:=can S k) (l:=List.range n);simp only[many,yL]at *;omega
    refine Sk _ ?_;have e1:=HW F (.cells #[.map (some mm)] FF (0,0));refine SF MQ (e1.fV hB id) (LQ A h.jD h.n2) O λs σ' ss e2 Q hsl=>?_;have D:=Q.trans (WhG A hB.nodup h.jD);have u:=D.length_eq;simp only[zk]at u;rw[Gy,←d]at u;refine Nf hsl O (m:=((q*2^k:Nat):Int)) (D.mem_iff.2 (by rw[P];simp)) (λy hy=>?_) ?_
    ·have w:=D.mem_iff.1 hy;have b:=Gg n S k;rw[P]at w b;simp only[zR,zW,zE]at w;rcases w with rfl|⟨z,hz,rfl⟩
     ·omega
     ·have:=(td.1 b).1 z hz;omega
    ·have W:=(h.bP e1).bP e2;refine Ny W O (λy hy1 hy2=>UB hc (QJ.2 O)) λZ e3 Y=>?_;have:=hR Z ((e1.to.trans e2.to).trans e3);simp only[ji,jj,iW,J,dH,C,zT]at this;exact this Y
   ·simp only[Z5,r,zC j];have:WW n S k=[]:=uO (by rw[Gy];omega);rw[this];rfl
  ·have N:¬(m<=2^k/\a<=2^k):=by
    have:¬((if(a:Int)>(m:Int)then(a:Int)else(m:Int))<=((2^k:Nat):Int)):=V
    split at this<;>omega
   simp only[Z5,r,zB N]
 ·simp only at X;have:k=ms.length:=by omega
  subst this;have C:ZD n S m a=none:=Mb h r 11 O;have:=hR F (Ext.refl _ _);simp only[ji,jj,iW,J,dH,C,zT]at this;exact this h
end Go.Bu
namespace Go.Ar
open Go.Bu
structure AR where
 n:Nat
 room:Nat
 tb:List cA
 S:Nat->Bool
 st:List Nat
 ow:Nat->Nat
 cG:List (List cH)
 cR:List gR
 runs:List (Nat×Nat)
def AR.ck (A:AR)(k:Int):Bool:=decide (0<=k)&&decide (k<(A.tb.length:Int))
def Ul (A:AR)(r:Nat×Nat):AR:={A with ow:=jN A.ow r.1 r.2 0,st:=UQ A.st r.1 r.2 2 [1],S:=Ki A.n A.S r.1 r.2}
def UH (A:AR)(rs:List (Nat×Nat)):AR:=rs.foldl Ul A
def dB (sp:Sp)(size:Nat):Option Nat:=((List.range (sp.st.length/size)).map (· * size)).find? λs=>s != 0&&fF sp s size==0
def Hm (st:List Nat)(a m:Nat):List Nat:=((List.range m).map (a + ·)).foldl (λl (h:Nat)=>jb l h) st
def Hk (A:AR)(sp:Sp)(size:Nat):Option (AR×Sp):=match dB sp size with
 | none=>none
 | some s=>some ({A with st:=Hm A.st (s/16) (size/16),S:=Ki A.n A.S s size},gp sp s size)
def KB (m:Nat):Nat:=if m<=16 then 16 else if m<=32 then 32 else 64
def dT (A:AR)(x aG no:Nat):AR:={A with S:=take A.S x (x+aG),st:=UQ A.st x aG 1 [2,3],ow:=jN A.ow x aG no}
def dC (A:AR)(sp:Sp)(aG align no:Nat):Option Nat×AR×Sp:=match ZD A.n A.S aG align with
 | some x=>(some x,dT A x aG no,sp)
 | none=>match Hk A sp (KB (max aG align))with
  | none=>(none,A,sp)
  | some (A',sp')=>match ZD A'.n A'.S aG align with
   | some x=>(some x,dT A' x aG no,sp')
   | none=>(none,A',sp')
def QF (A:AR)(k:Int):Int:=if A.ck k then(match A.cR[k.toNat]? with
 | some t=>if t.bs=[]then 4 else 0
 | none=>5)else 1
def YR (A:AR)(k:Int):List Int:=if QF A k=0 then(match A.cR[k.toNat]? with
 | some t=>t.bs.getLast?.getD []
 | none=>[])else[]
def Z1 (A:AR)(k:Int):AR:=if QF A k=0 then{A with cR:=A.cR.modify k.toNat gR.rem}else A
def HT (A:AR)(k:Int)(xs:List Int):Int:=if A.ck k then(match A.tb[k.toNat]?,A.cG[k.toNat]? with
 | some c,some ss=>if xs.length=c.batch then(if xs.all (λx=>eH c ss x==some true)then 0 else 8)else 1
 | _,_=>5)else 1
def VG (A:AR)(k:Int)(xs:List Int):Bool:=decide (HT A k xs=0)&&(match A.cR[k.toNat]? with
 | some t=>decide (t.bs.length<A.room)
 | none=>false)
def KG (A:AR)(k:Int)(xs:List Int):AR:=if VG A k xs then{A with cR:=A.cR.modify k.toNat λt=>{t with bs:=t.bs++[xs]}}else A
def Kd (A:AR)(k m:Int):Int:=if A.ck k then(if m<0 then 1 else 0)else 1
def VX (A:AR)(k m:Int):List Nat×List cH:=match A.tb[k.toNat]?,A.cG[k.toNat]? with
 | some c,some ss=>KI c m.toNat ss
 | _,_=>([],[])
def YB (A:AR)(k m:Int):List Nat:=if Kd A k m=0 then(VX A k m).1 else[]
def YT (A:AR)(k m:Int):AR:=if Kd A k m=0 then{A with cG:=A.cG.set k.toNat (VX A k m).2}else A
def Kv (A:AR)(k:Int)(xs:List Int):Int:=if A.ck k then(match A.tb[k.toNat]?,A.cG[k.toNat]? with
 | some c,some ss=>iJ c ss xs
 | _,_=>5)else 1
def ZZ (A:AR)(k:Int)(xs:List Int):AR:=if Kv A k xs=0 then(match A.tb[k.toNat]?,A.cG[k.toNat]? with
 | some c,some ss=>UH {A with cG:=A.cG.set k.toNat (cK (xs.foldl (fK c) ss))} ((QX (xs.foldl (fK c) ss)).map λs=>(s,c.aG))
 | _,_=>A)else A
def Vu (A:AR)(sp:Sp)(k:Int):Int:=if A.ck k then(match A.tb[k.toNat]?,A.cG[k.toNat]? with
 | some c,some ss=>(match (dC A sp c.aG 1 (k.toNat+1)).1 with
  | some x=>oe c ss x
  | none=>6)
 | _,_=>5)else 1
def cQ (A:AR)(sp:Sp)(k:Int):AR×Sp:=if A.ck k then(match A.tb[k.toNat]?,A.cG[k.toNat]? with
 | some c,some ss=>(match dC A sp c.aG 1 (k.toNat+1)with
  | (some x,A',sp')=>(if oe c ss x=0 then{A' with cG:=A'.cG.set k.toNat (iv c ss x)}else A',sp')
  | (none,A',sp')=>(A',sp'))
 | _,_=>(A,sp))else(A,sp)
def KO (m a:Int):Bool:=decide (1<=m)&&(decide (m<=64)&&(a==1||(a==2||(a==4||(a==8||a==16)))))
def Q6 (A:AR)(sp:Sp)(m a:Int):Int:=if KO m a then(if(dC A sp m.toNat a.toNat 41).1.isSome then 0 else 6)else 1
def QE (A:AR)(sp:Sp)(m a:Int):Nat:=if KO m a then(dC A sp m.toNat a.toNat 41).1.getD 0 else 0
def cC (A:AR)(sp:Sp)(m a:Int):AR×Sp:=if KO m a then(match dC A sp m.toNat a.toNat 41 with
 | (some x,A',sp')=>({A' with runs:=mset2 A'.runs x m.toNat},sp')
 | (none,A',sp')=>(A',sp'))else(A,sp)
where mset2 (l:List (Nat×Nat)) (x m:Nat):List (Nat×Nat):=if l.any (λr=>r.1==x)then l.map (λr=>if r.1==x then(x,m)else r)else l++[(x,m)]
def qC (A:AR)(x:Int):Option (Nat×Nat):=A.runs.find? λr=>(r.1:Int)==x
def VA (A:AR)(x:Int):Int:=if(qC A x).isSome then 0 else 8
def Kc (A:AR)(x:Int):AR:=match qC A x with
 | some r=>Ul {A with runs:=A.runs.filter λq=>!((q.1:Int)==x)} r
 | none=>A
def sL (A:AR)(p:Nat):Option (Nat×Nat):=A.runs.find? λr=>decide (r.1<=p)&&decide (p<r.1+r.2)
def Hy (A:AR)(x:Int):Option (Int×Nat):=if x<0 then none else
 let p:=x.toNat/256
 let no:=if p<1024 then A.ow p else 0
 if no=0 then none else if no=41 then(sL A p).map λr=>(-1,r.1*256)else
 match A.tb[no-1]?,A.cG[no-1]? with
 | some c,some ss=>(rK c ss x).map λa=>(((no-1:Nat):Int),a)
 | _,_=>none
def yw (A:AR)(x:Int):Bool:=match Hy A x with
 | some (k,a)=>if(a:Int)=x then(if k<0 then true else(match A.tb[k.toNat]?,A.cG[k.toNat]? with
  | some c,some ss=>eH c ss x==some true
  | _,_=>false))else false
 | none=>false
def pU (A:AR)(p:Int):Bool:=decide (0<=p)&&decide (A.st.getD p.toNat 0≠0)
def vj (A:AR)(k:Nat):AR:=match A.cR[k]? with
 | some t=>t.out.foldl (λA' xs=>ZZ A' k xs) {A with cR:=A.cR.set k t.tick}
 | none=>A
def sP (A:AR):AR:=(List.range A.cR.length).foldl vj A
end Go.Ar
namespace Go.Ar
open Go.Vc (bU dA cN)
inductive Ph where
 | take (k:Nat)
 | cJ (k w:Nat)
 | cL (k w:Nat)
 | grow (k w:Nat)
 | fill
 | eP (m:Nat)
 | find (x:Int)
 | put (k:Nat) (x:Int)
 | back
 | dG (s a:Int)
 | drain
 deriving DecidableEq
structure Th where
 ls:List Li
 bQ:List Bt
 ph:Option Ph
structure Cf where
 aG:Nat
 ic:Nat
 threads:Nat
 dD:Nat
 room:Nat
abbrev Bk:=Int×Int×Int×Int
structure Hw where
 tb:List cA
 cf:Cf
 sp:Sp
 bZ:List AR
 bR:List Th
 live:List (Int×Bk)
def Yh (bZ:List AR)(x:Int):Int:=if x<0 then -1 else match bZ.findIdx? (λA=>pU A (x/256))with
 | some i=>(i:Int)
 | none=>-1
def Hw.own (H:Hw)(t:Nat):Nat:=t%H.bZ.length
def Hw.eC (H:Hw)(t:Nat)(f:Th->Th):Hw:={H with bR:=H.bR.modify t f}
def Hw.cF (H:Hw)(k:Nat)(A:AR):Hw:={H with bZ:=H.bZ.set k A}
def V9 (H:Hw)(x size cls:Int):Hw:={H with live:=dA H.live x (x,size,cls,Yh H.bZ x)}
def Kr (H:Hw)(t k:Nat)(xs:List Int):Hw:=H.eC t λh=>{h with bQ:=h.bQ++[(k,xs)]}
def j2 (H:Hw)(t:Nat):Option Ph:=match H.bR[t]? with
 | some h=>if h.bQ=[]then none else some .back
 | none=>none
def Z9 (bZ:List AR)(xs:List Int)(a:Nat):List Int:=xs.filter λx=>Yh bZ x==(a:Int)
def VS (H:Hw)(k:Nat)(part:Nat->List Int)(l:List Nat):Hw:=l.foldl (λH a=>match H.bZ[a]? with
 | some A=>if part a=[]then H else H.cF a (ZZ A (k:Int) (part a))
 | none=>H) H
def GV (H:Hw)(own k:Nat)(xs:List Int):Hw:=match H.bZ[own]? with
 | some A=>if(Z9 H.bZ xs own).length=xs.length/\VG A (k:Int) xs=true then H.cF own (KG A (k:Int) xs)
  else VS (if(Z9 H.bZ xs own).length=xs.length then H.cF own (KG A (k:Int) xs)else H) k (Z9 H.bZ xs) (List.range H.bZ.length)
 | none=>H
abbrev uN:=Hw×Option Ph×Int×Int
def l4 (H:Hw)(x:Int):Int:=if 0<=Yh H.bZ x then(match H.bZ[(Yh H.bZ x).toNat]? with
 | some A=>(match Hy A x with
  | some (k,y)=>if 0<=k/\(y:Int)=x then 9 else 8
  | none=>8)
 | none=>8)else 8
def HC (H:Hw)(t:Nat)(x:Int):uN:=match bU H.live x with
 | none=>(H,none,0,l4 H x)
 | some b=>if b.2.2.1<0 then({H with live:=cN H.live x},some (.dG (x/256) b.2.2.2),0,0)
  else(Kr {H with live:=cN H.live x} t b.2.2.1.toNat [x],some (.put b.2.2.1.toNat x),0,0)
def Hw.ka (H:Hw)(t:Nat):Th:=H.bR.getD t ⟨[],[],none⟩
def Hw.cls (H:Hw)(k:Nat):cA:=H.tb.getD k ⟨8,1,1⟩
def Hw.eL (H:Hw)(t:Nat):AR:=H.bZ.getD (H.own t) ⟨0,0,[],λ_=>false,[],λ_=>0,[],[],[]⟩
def Th.li (h:Th)(k:Nat):Li:=h.ls.getD k ir
def Th.ik (h:Th)(k:Nat)(l:Li):Th:={h with ls:=h.ls.set k l}
def iD (H:Hw)(t k:Nat)(x:Int):Hw:=
 let c:=H.cls k
 let l:=(H.ka t).li k
 let H1:=H.eC t λh=>h.ik k (dM c x l).2
 let H2:=if(dM c x l).1=[]then H1 else Kr H1 t k (dM c x l).1
 let H3:=H2.eC t λh=>{h with bQ:=h.bQ.drop 1}
 if H.cf.dD<KC H.tb (H3.ka t).ls then H3.eC t λh=>{h with ls:=KF Vx H.tb h.ls,bQ:=h.bQ++KK Vx H.tb h.ls}else H3
def WH (H:Hw)(t:Nat):Ph->uN
 | .take k=>match KM (H.cls k) ((H.ka t).li k)with
  | (some x,l)=>(V9 (H.eC t λh=>h.ik k l) x ((H.cls k).size:Int) (k:Int),none,x,0)
  | (none,l)=>(H.eC t λh=>h.ik k l,some (.cJ k (qp (H.cls k) l)),0,0)
 | .cJ k w=>if w=(H.cls k).batch then(if QF (H.eL t) (k:Int)=0 then(Kr (H.cF (H.own t) (Z1 (H.eL t) (k:Int))) t k (YR (H.eL t) (k:Int)),some .fill,0,0)else(H,some (.cL k w),0,0))else(H,some (.cL k w),0,0)
 | .cL k w=>
  let H1:=H.cF (H.own t) (YT (H.eL t) (k:Int) (w:Int))
  if YB (H.eL t) (k:Int) (w:Int)=[]then(H1,some (.grow k w),0,0)else(Kr H1 t k ((YB (H.eL t) (k:Int) (w:Int)).map λ(x:Nat)=>(x:Int)),some .fill,0,0)
 | .grow k w=>
  let r:=cQ (H.eL t) H.sp (k:Int)
  let H1:={H.cF (H.own t) r.1 with sp:=r.2}
  if Vu (H.eL t) H.sp (k:Int)=0 then(H1,some (.cL k w),0,0)else(H1,none,0,Vu (H.eL t) H.sp (k:Int))
 | .fill=>match (H.ka t).bQ with
  | (k,x::xs)::_=>(V9 (H.eC t λh=>{ls:=h.ls.set k (eO xs.reverse (h.li k)),bQ:=[],ph:=h.ph}) x ((H.cls k).size:Int) (k:Int),none,x,0)
  | _=>(H,none,0,0)
 | .eP m=>
  let r:=cC (H.eL t) H.sp (m:Int) 1
  let H1:={H.cF (H.own t) r.1 with sp:=r.2}
  let x:Int:=((QE (H.eL t) H.sp (m:Int) 1*256:Nat):Int)
  if Q6 (H.eL t) H.sp (m:Int) 1=0 then(V9 H1 x ((m*256:Nat):Int) (-1),none,x,0)else(H1,none,0,Q6 (H.eL t) H.sp (m:Int) 1)
 | .find x=>HC H t x
 | .put k x=>(iD H t k x,j2 (iD H t k x) t,0,0)
 | .back=>match (H.ka t).bQ with
  | (k,xs)::r=>
   let H1:=GV (H.eC t λh=>{h with bQ:=r}) (H.own t) k xs
   (H1,j2 H1 t,0,0)
  | []=>(H,none,0,0)
 | .dG s a=>(match H.bZ[a.toNat]? with
  | some A=>H.cF a.toNat (Kc A s)
  | none=>H,none,0,0)
 | .drain=>
  let H1:=H.eC t λh=>{h with ls:=KF Qc H.tb h.ls,bQ:=KK Qc H.tb h.ls}
  (H1,j2 H1 t,0,0)
end Go.Ar