/- Texts joined. -/
import Derived.Deep.Slices
import Derived.Deep.Fields
import Derived.ChangeSame
import Derived.Lib.SmallJoins
import Derived.Below
import Derived.Test.YtoeidadjhkkioaaGreatDoorProg
import Derived.KernelRfl
import Derived.RangeFuncLeaves
import Derived.RangeFuncRecord
import Derived.RangeFuncSeq
import Derived.RangeFuncCalls
import Derived.OrdersIn
import Derived.TacticsIn
import Derived.RangeFuncIn
import Derived.Shelf.SlIterI.Nil
import Derived.Shelf.SortM.Plain
import Derived.Shelf.SortM.SortNone
import Derived.Ground.GgzProg
import Derived.Ground.SlgmProg
import Derived.Shelf.SlMaps.Clone
import Derived.Ground.SlmcProg
import Derived.Test.YtoeidadjhkkioaaGreatDoorZ1
set_option linter.unusedVariables false
set_option linter.unusedSimpArgs false
namespace Go.Vc
open Go
abbrev Rg:=Nat->Prop
def dM (P:Hp->Rg->Prop):Prop:=∀U σ' (F G:Rg),P U F->U.size<=σ'.size->(∀b,b<U.size->F b->G b/\σ'[b]?=U[b]?)->P σ' G
def Grow (F:Rg)(U:Hp):Rg:=λb=>F b\/U.size<=b
theorem dM.mono {P:Hp->Rg->Prop}(hl:dM P){U:Hp}{F G:Rg}(h:P U F)(hs:∀b,b<U.size->F b->G b):P U G:=hl U U F G h (zD _) λb a d=>⟨hs b a d,rfl⟩
theorem dM.bT {P:Hp->Rg->Prop}(hl:dM P){U σ':Hp}{F T:Rg}(h:P U F)(e:Ext T U σ')(hn:∀b,b<U.size->F b->¬T b):P σ' F:=
 hl U σ' F F h e.1 λb a d=>⟨d,e.2 b a (hn b a d)⟩
theorem dM.bP {P:Hp->Rg->Prop}(hl:dM P){U σ':Hp}{F:Rg}(h:P U F)(e:bL U σ'):P σ' F:=hl.bT h e λ_ _ _=>id
def Sep {L:Type}(C:L->Hp->Rg->Prop)(U:Hp)(F:Rg):Prop:=∃ρ:Nat->L,∀i,C i U λb=>F b/\ρ b=i
variable {L:Type}{C:L->Hp->Rg->Prop}{U σ':Hp}{F:Rg}
theorem Sep.loc (hC:∀i,dM (C i)):dM (Sep C):=by
 rintro U j F G ⟨ρ,h⟩ g d;exact⟨ρ,λi=>hC i _ _ _ _ (h i) g λb e a=>⟨⟨(d b e a.1).1,a.2⟩,(d b e a.1).2⟩⟩
theorem Sep.get (h:Sep C U F)(i:L):∃G:Rg,(∀b,G b->F b)/\C i U G:=by
 obtain⟨ρ,h⟩:=h;exact⟨_,λb a=>a.1,h i⟩
open Classical in
theorem Sep.step (hC:∀i,dM (C i))(h:Sep C U F)(i:L):∃G:Rg,(∀b,G b->F b)/\C i U G/\∀(σ':Hp) (C':L->Hp->Rg->Prop) (G':Rg),
 (∀j,j≠i->C' j=C j)->Ext G U σ'->(∀b,G' b->G b\/U.size<=b)->C' i σ' G'->dM (C' i)->Sep C' σ' λb=>F b/\b<U.size/\¬G b\/G' b:=by
 obtain⟨ρ,h⟩:=h;refine⟨_,λb d=>d.1,h i,λσ' C' G' r e s u w=>⟨λb=>if G' b then i else ρ b,λj=>?_⟩⟩
 by_cases hji:j=i
 ·subst hji;exact w.mono u λb _ d=>⟨.inr d,zC d⟩
 ·rw[r j hji];refine hC j _ _ _ _ (h j) e.1 λb d m=>?_;have a:¬(F b/\ρ b=i):=λp=>hji (m.2.symm.trans p.2);have g:¬G' b:=λp=>by
   rcases s b p with h1|h1
   ·exact a h1
   ·omega
  exact⟨⟨.inl ⟨m.1,d,a⟩,(zB g).trans m.2⟩,e.2 b d a⟩
open Classical in
theorem Sep.pC (hC:∀i,dM (C i))(h:Sep C U F)(i j:L)(hij:i≠j):∃G H:Rg,(∀b,G b->F b)/\(∀b,H b->F b)/\(∀b,G b->¬H b)/\C i U G/\C j U H/\∀(σ':Hp) (C':L->Hp->Rg->Prop) (G' H':Rg),
 (∀k,k≠i->k≠j->C' k=C k)->Ext (λb=>G b\/H b) U σ'->(∀b,G' b->(G b\/H b)\/U.size<=b)->(∀b,H' b->(G b\/H b)\/U.size<=b)->(∀b,G' b->¬H' b)->C' i σ' G'->C' j σ' H'->(∀k,dM (C' k)) →
 Sep C' σ' λb=>F b/\b<U.size/\¬(G b\/H b)\/G' b\/H' b:=by
 obtain⟨ρ,h⟩:=h;refine⟨_,_,λb a=>a.1,λb a=>a.1,λb g B=>hij (g.2.symm.trans B.2),h i,h j,λσ' C' G' H' x e A y hd w z u=>⟨λb=>if G' b then i else if H' b then j else ρ b,λk=>?_⟩⟩
 by_cases hki:k=i
 ·subst hki;exact(u _).mono w λb _ a=>⟨.inr (.inl a),zC a⟩
 by_cases hkj:k=j
 ·subst hkj;exact(u _).mono z λb _ a=>⟨.inr (.inr a),by show(if G' b then i else if H' b then k else ρ b)=k;rw[zB λd=>hd b d a,zC a]⟩
 ·rw[x k hki hkj];refine hC k _ _ _ _ (h k) e.1 λb a s=>?_;have r:¬((F b/\ρ b=i)\/F b/\ρ b=j):=by
   rintro(d|d)
   ·exact hki (s.2.symm.trans d.2)
   ·exact hkj (s.2.symm.trans d.2)
  have m:¬G' b:=λd=>by
   rcases A b d with g|g
   ·exact r g
   ·omega
  have p:¬H' b:=λd=>by
   rcases y b d with g|g
   ·exact r g
   ·omega
  exact⟨⟨.inl ⟨s.1,a,r⟩,by show(if G' b then i else if H' b then j else ρ b)=k;rw[zB m,zB p];exact s.2⟩,e.2 b a r⟩
def iB (p:Nat)(cs:List Value):Hp->Rg->Prop:=λU F=>F p/\bZ U p cs
theorem iB.loc (p:Nat)(cs:List Value):dM (iB p cs):=λU d F G h g b=>by
 obtain⟨e,a⟩:=h.2;have:=b p h.2.lt h.1;exact⟨this.1,e,this.2.trans a⟩
def jH (r:Nat)(k:IntKind)(c:CK)(l:List (Int×c.T)):Hp->Rg->Prop:=λU F=>F r/\dJ U r k c l
theorem jH.loc (r:Nat)(k:IntKind)(c:CK)(l:List (Int×c.T)):dM (jH r k c l):=λU i F G h j e=>by
 have:=e r h.2.lt h.1;obtain⟨d,b,g,a⟩:=h.2;exact⟨this.1,d,b,this.2.trans g,a⟩
def yE:Hp->Rg->Prop:=λ_ _=>True
theorem yE.loc:dM yE:=λ_ _ _ _ _ _ _=>trivial
def vZ (s:Sl)(sz:Nat)(xs:List Value):Hp->Rg->Prop:=λU F=>Own F U s sz xs
theorem vZ.loc (s:Sl)(sz:Nat)(xs:List Value):dM (vZ s sz xs):=λU d F G h g a=>by
 refine⟨h.1,h.2.imp id ?_⟩;rintro⟨b,cs,hq,ha,⟨e,he⟩,r⟩;have:=a b (bZ.lt ⟨e,he⟩) hq;exact⟨b,cs,this.1,ha,⟨e,this.2.trans he⟩,r⟩
def bS (s:Sl)(sz:Nat)(xs:List Value):Hp->Rg->Prop:=λh F=>xs.length=s.len*sz/\(s.len=0/\s.cap=0\/∃b cs,F b/\s.a=some ⟨b,0,none⟩/\bZ h b cs/\s.len<=s.cap/\cs.length=s.cap*sz/\cs.take xs.length=xs)
theorem bS.loc (s:Sl)(sz:Nat)(xs:List Value):dM (bS s sz xs):=λU d F G h g a=>by
 refine⟨h.1,h.2.imp id ?_⟩;rintro⟨b,cs,hq,ha,⟨e,he⟩,r⟩;have:=a b (bZ.lt ⟨e,he⟩) hq;exact⟨b,cs,this.1,ha,⟨e,this.2.trans he⟩,r⟩
theorem _root_.aI{s n xs}:dM (bS s n xs):=bS.loc _ _ _
theorem bS.nil (h:Hp)(F:Rg)(sz:Nat)(a:Option Addr):bS ⟨a,0,0⟩ sz [] h F:=⟨by simp,.inl ⟨rfl,rfl⟩⟩
theorem bS.rd {h:Hp}{F:Rg}{s:Sl}{sz:Nat}{xs:List Value}(ho:bS s sz xs h F):Rd h s.a xs:=by
 rcases ho.2 with⟨hl,_⟩|⟨b,cs,_,ha,hb,_,_,ht⟩
 ·have:=ho.1;rw[hl]at this;simp at this;subst this;cases s.a<;>simp[Rd]
 ·rw[ha];intro j v hv;rw[add_lit,hb.cell,zH];rw[←ht,zj]at hv;split at hv
  ·exact hv
  ·cases hv
theorem bS.app {F:Rg}{h:Hp}{s x:Sl}{sz bytes e:Nat}{zs xs ys:List Value}{K:Sl->Hp->Prop}(ho:bS s sz xs h F)(hz:zs.length=sz)
 (hy:ys.length=x.len*sz) (hr:Rd h x.a ys) (h1:∀v∈ys,dR v=true) (hb:(s.len+x.len)*bytes<=2^46) (hc:s.len+x.len<=2^62)
 (hx:0<x.len) (hK:∀s' h',s'.len=s.len+x.len->Ext F h h'->bS s' sz (xs++ys) h' (Grow F h)->K s' h'):App s sz bytes e zs x h K:=by
 refine⟨xs,ys,ho.1,hy,ho.rd,hr,h1,hb,hc,λg=>?_,λp c j=>?_⟩
 ·rcases ho.2 with⟨hl,hcap⟩|⟨b,cs,hQ,ha,hk,hle,hcl,ht⟩
  ·omega
  ·rw[ha];simp only;rw[add_lit];have r:(s.len+x.len)*sz<=s.cap*sz:=ma _ g;rw[zl]at r;have d:=ho.1;refine VU hk O λh' m i=>hK _ h' rfl (Ext.eM m hQ) ⟨?_,.inr ⟨b,_,.inl hQ,rfl,i,g,?_,?_⟩⟩
   ·simp[d,hy,zl]
   ·simp;omega
   ·rw[zM,d];rw[zH,kc,←d];rw[ht,pJ aA,lz aA]
 ·refine hK _ _ rfl (Ext.push _ _ _) ⟨by simp[ho.1,hy,zl],.inr ⟨h.size,xs++ys++(List.replicate (c-(s.len+x.len)) zs).flatten,.inr (zD _),rfl,⟨e,by simp⟩,j,?_,?_⟩⟩
  ·simp only[zM,xe,vB,xE,ho.1,hy,hz,←zl]
   congr 1;omega
  ·rw[pJ aA,lz aA]
theorem bS.st {F:Rg}{h:Hp}{s:Sl}{sz:Nat}{xs:List Value}(ho:bS s sz xs h F){j:Nat}(hj:j<xs.length){v:Value}{K:aP}{a:Addr}(ha:∀b,s.a=some ⟨b,0,none⟩->a=⟨b,j,none⟩)
 (hK:∀h',Ext F h h'->bS s sz (xs.set j v) h' F->K h'):dU a v h K:=by
 rcases ho.2 with⟨hl,_⟩|⟨b,cs,hq,hsa,hb,hle,hcl,ht⟩
 ·have:=ho.1;rw[hl]at this;simp at this;subst this;simp at hj
 ·rw[ha b hsa];have d:j<cs.length:=by
   have:(cs.take xs.length).length=xs.length:=by rw[ht]
   rw[zY]at this;omega
  refine⟨by rw[hb.cell,cX d];rfl,hb.od,hK _ (Ext.jX (F:=F) hq) ⟨by simp[ho.1],.inr ⟨b,_,hq,hsa,hb.set v,hle,by simp[hcl],?_⟩⟩⟩;rw[oZ,List.take_set,ht]
def cV (s:Sl)(sz:Nat)(xs:List Value):Hp->Rg->Prop:=λU F=>xs.length=s.len*sz/\(xs=[]\/∃b o cs,F b/\s.a=some ⟨b,o,none⟩/\mO U b cs/\∀j,j<xs.length->cs[o+j]?=xs[j]?)
theorem cV.loc (s:Sl)(sz:Nat)(xs:List Value):dM (cV s sz xs):=λU d F G h g a=>by
 refine⟨h.1,h.2.imp id ?_⟩;rintro⟨b,o,cs,hq,ha,⟨e,z,he⟩,r⟩;have:=a b (mO.lt ⟨e,z,he⟩) hq;exact⟨b,o,cs,this.1,ha,⟨e,z,this.2.trans he⟩,r⟩
theorem _root_.aH{s n xs}:dM (cV s n xs):=cV.loc _ _ _
theorem bS.fX {Q:Rg}{h:Hp}{s:Sl}{sz:Nat}{xs:List Value}(ho:bS s sz xs h Q):cV s sz xs h Q:=by
 refine⟨ho.1,?_⟩;rcases ho.2 with⟨hl,_⟩|⟨b,cs,hq,ha,hb,_,_,ht⟩
 ·left;have:=ho.1;rw[hl]at this;simpa using this
 ·refine .inr ⟨b,0,cs,hq,ha,hb.q,λj a=>?_⟩;rw[←ht,zj,zH,zC a]
theorem cV.cell {s:Sl}{sz:Nat}{xs:List Value}(h:cV s sz xs U F){j:Nat}{v:Value}(hv:xs[j]?=some v):∃b o,s.a=some ⟨b,o,none⟩/\Vc.cell U ⟨b,o+j,none⟩=some v:=by
 have d:=(cZ.1 hv).1;rcases h.2 with h0|⟨b,o,cs,_,ha,hb,hc⟩
 ·subst h0;simp at d
 ·exact⟨b,o,ha,by rw[hb.cell,hc j d];exact hv⟩
theorem cV.mi {s:Sl}{k:IntKind}{xs:List Int}(h:cV s 1 (xs.map (Value.int k)) U F){i:Nat}{x:Int}(hx:xs[i]?=some x){K:Int->Prop}(hK:K x):Ix s.a s.len (i:Int) 1 λa=>gJ k a U K:=by
 have m:=(cZ.1 hx).1;obtain⟨b,o,g,e⟩:=h.cell (j:=i) (v:=.int k x) (by simp[hx]);have d:=h.1;simp at d;rw[g];refine ix O O ?_;rw[add_lit];exact nX (by simpa using e) hK
theorem cV.rd {s:Sl}{sz:Nat}{xs:List Value}(h:cV s sz xs U F):Rd U s.a xs:=by
 cases ha:s.a with
 | none=>
  rcases h.2 with h0|⟨b,o,cs,_,d,_⟩
  ·exact h0
  ·rw[ha]at d;cases d
 | some a=>
  intro j v hv;obtain⟨b,o,d,e⟩:=h.cell hv;rw[ha]at d;cases d;rw[add_lit];exact e
end Go.Vc
namespace Go.Vc
open Go Go.ChangeShapes Go.WideShapes Go.Deep Go.RowKit
def P0 (U:Hp):Bool->Hp->Prop:=λb σ'=>b=true/\bL U σ'
theorem ND {P:Program}{f:Nat}{args:Array Value}{w:World}(h:Wi P f args [.one .b] w.heap (P0 w.heap)):Calls P f args w λe w'=>e=.returned (.bool true)/\Below w.heap.size w w':=by
 refine(h w rfl).mono ?_;rintro e w' ⟨a,vs,rfl,d⟩
 match vs,d with
 | [v],d=>
  obtain⟨x,rfl,j,i⟩:=d;have g:x=true:=j;subst g;exact⟨rfl,⟨a.1,a.2.1,a.2.2.1,a.2.2.2,λk m=>i.2 k m id⟩⟩
def iw (h:Hp)(l:Sl)(xs:List (Int×Int×Int)):Prop:=l.len=xs.length/\∀i x y z,xs[i]?=some (x,y,z)->∃b o,l.a=some ⟨b,o,none⟩/\b<h.size ∧
 cell h ⟨b,o+i*3,none⟩=some (.int .i64 x)/\cell h ⟨b,o+i*3+1,none⟩=some (.int .i64 y)/\cell h ⟨b,o+i*3+2,none⟩=some (.int .i64 z)
theorem J7 {h:Hp}{a:Addr}{v:Value}(hc:cell h a=some v):a.block<h.size/\a.spot=none:=by
 unfold cell at hc;split at hc
 ·rename_i heq;refine⟨(jP.1 heq).1,?_⟩;cases hs:a.spot with
  | none=>rfl
  | some s=>rw[hs]at hc;simp at hc
 ·cases hc
end Go.Vc
namespace Go.Vc
open Go
theorem eY {k:IntKind}{b o i:Nat}{h:Hp}{x:Int}{K:Int->Prop}(hc:cell h ⟨b,o+i,none⟩=some (.int k x))(hK:K x):gJ k (Addr.add ⟨b,o,none⟩ i) h K:=by
 rw[add_lit];exact nX hc hK
theorem cS {e:Int}{m:Nat}{K:Int->Prop}(he:e=(m:Int))(hm:m<=4611686018427387904)(hK:K (m:Int)):Ar .i64 e K:=by
 rw[he];exact ar O O hK
theorem Ee {k:Nat}(h:k<=62):min ((k:Int).toNat) IntKind.i64.bits=k:=by
 have:IntKind.i64.bits=64:=rfl;rw[this];omega
theorem xh {k:IntKind}{e:Int}{K:Int->Prop}(hK:K (k.wrap e)):Ar k e K:=hK
variable {U:Hp}{b o i j:Nat}{cs:List Value}
theorem bZ.rI (hb:bZ U b cs){k:IntKind}{x:Int}{K:Int->Prop}(hc:cs[o+i]?=some (.int k x))(hK:K x):gJ k (Addr.add ⟨b,o,none⟩ i) U K:=by
 rw[add_lit];exact nX (hb.cell.trans hc) hK
theorem bZ.rB (hb:bZ U b cs){x:Bool}{K:Bool->Prop}(hc:cs[o+i]?=some (.bool x))(hK:K x):l5 (Addr.add ⟨b,o,none⟩ i) U K:=by
 rw[add_lit];exact nv (hb.cell.trans hc) hK
theorem bZ.rP (hb:bZ U b cs){x:Option Addr}{K:Option Addr->Prop}(hc:cs[o+i]?=some (.pointer x))(hK:K x):fS (Addr.add ⟨b,o,none⟩ i) U K:=by
 rw[add_lit];exact vd (hb.cell.trans hc) hK
theorem bZ.rM (hb:bZ U b cs){x:Option Nat}{K:Option Nat->Prop}(hc:cs[o+i]?=some (.map x))(hK:K x):lr (Addr.add ⟨b,o,none⟩ i) U K:=by
 rw[add_lit];exact I9 (hb.cell.trans hc) hK
theorem bZ.rS (hb:bZ U b cs){a:Option Addr}{n c:Nat}{K:Sl->Prop}(hc:cs[o+i]?=some (.slice a n c))(hK:K ⟨a,n,c⟩):ju (Addr.add ⟨b,o,none⟩ i) U K:=by
 rw[add_lit];exact nS (hb.cell.trans hc) hK
theorem bZ.gC (hb:bZ U b cs){k:IntKind}{x:Int}{K:Int->Prop}(hc:cs[o+i+j]?=some (.int k x))(hK:K x):gJ k (Addr.add (Addr.add ⟨b,o,none⟩ i) j) U K:=by
 rw[add_lit,add_lit];exact nX (hb.cell.trans hc) hK
theorem bZ.tZ (hb:bZ U b cs){k:IntKind}{x:Int}{K:Int->Prop}(hc:cs[o]?=some (.int k x))(hK:K x):gJ k ⟨b,o,none⟩ U K:=nX (hb.cell.trans hc) hK
theorem bZ.qd (hb:bZ U b cs){x:Option Addr}{K:Option Addr->Prop}(hc:cs[o]?=some (.pointer x))(hK:K x):fS ⟨b,o,none⟩ U K:=vd (hb.cell.trans hc) hK
theorem bZ.uR (hb:bZ U b cs){a:Option Addr}{n c:Nat}{K:Sl->Prop}(hc:cs[o]?=some (.slice a n c))(hK:K ⟨a,n,c⟩):ju ⟨b,o,none⟩ U K:=nS (hb.cell.trans hc) hK
theorem bZ.s1 (hb:bZ U b cs){v:Value}(ho:o+i<cs.length){K:aP}(hK:∀h',QR U h' b->bZ h' b (cs.set (o+i) v)->K h'):dU (Addr.add ⟨b,o,none⟩ i) v U K:=by
 rw[add_lit];refine⟨?_,hb.od,hK _ ⟨Vw _ _ _,λc a=>V6 a⟩ (hb.set v)⟩;rw[hb.cell,cX ho];rfl
theorem bZ.s0 (hb:bZ U b cs){v:Value}(ho:o<cs.length){K:aP}(hK:∀h',QR U h' b->bZ h' b (cs.set o v)->K h'):dU ⟨b,o,none⟩ v U K:=by
 refine⟨?_,hb.od,hK _ ⟨Vw _ _ _,λc a=>V6 a⟩ (hb.set v)⟩;rw[hb.cell,cX ho];rfl
theorem nw {e:Nat}{K:Addr->Hp->Prop}(hK:∀h',h'.size=U.size+1->bL U h'->bZ h' U.size cs->K ⟨U.size,0,none⟩ h'):Nw (.cells cs.toArray e (0,0)) U K:=
 hK _ aA (Ext.push _ _ _) (bZ.push _ _ _)
theorem ud {K:Addr->Hp->Prop}(hK:∀h',h'.size=U.size+1->bL U h'->(∀(k:IntKind) (c:CK),dJ h' U.size k c [])->K ⟨U.size,0,none⟩ h'):Nw (.map #[] 0) U K:=
 hK _ aA (Ext.push _ _ _) λk c=>dJ.push _ _ _
theorem mk {n bytes e:Nat}{zs:List Value}{K:Sl->Hp->Prop}(h1:bytes*n<=1073741824)(h2:n<=1073741824)
 (hK:∀h',h'.size=U.size+1->bL U h'->bZ h' U.size (List.replicate n zs).flatten->K ⟨some ⟨U.size,0,none⟩,n,n⟩ h'):Mk (n:Int) (n:Int) bytes e zs U K:=by
 refine⟨O,wP _,?_,O,?_⟩
 ·have:((bytes:Int)*(n:Int))=((bytes*n:Nat):Int):=by simp
  rw[this];omega
 ·simp only[dD];exact nw hK
theorem jj {s:Sl}{sz lo hi mx:Nat}{K:Sl->Prop}(h1:lo<=hi)(h2:hi<=mx)(h3:mx<=s.cap)(hK:K ⟨if mx=lo then s.a else s.a.map (·.add (lo*sz)),hi-lo,mx-lo⟩):fo s sz (lo:Int) (hi:Int) (mx:Int) K:=
 ⟨O,O,O,O,by simpa using hK⟩
theorem l6 (a b:Nat):(((a:Nat):Int)==((b:Nat):Int))=(a==b):=by rw[kT];simp;omega
theorem qO (a b:Nat):(((a:Nat):Int) != ((b:Nat):Int))=(a != b):=by rw[bne,bne,l6]
theorem vF (a:Nat):(((a:Nat):Int)==0)=(a==0):=l6 a 0
theorem R9 (a:Nat):(((a:Nat):Int) != 0)=(a != 0):=qO a 0
def ints (l:List Nat):List Value:=l.map λ(x:Nat)=>Value.int .i64 (x:Int)
theorem Q3 (l:List Nat):(ints l).length=l.length:=by simp[ints]
theorem R6 {l:List Nat}{i x:Nat}(h:l[i]?=some x):(ints l)[i]?=some (.int .i64 (x:Int)):=by simp[ints,h]
theorem U9 (l m:List Nat):ints (l++m)=ints l++ints m:=by simp[ints]
theorem cV.rE {s:Sl}{F:Rg}{xs:List Nat}(h:cV s 1 (ints xs) U F){i x:Nat}(hx:xs[i]?=some x){K:Int->Prop}(hK:K (x:Int)):Ix s.a s.len (i:Int) 1 λa=>gJ .i64 a U K:=by
 have j:=(cZ.1 hx).1;obtain⟨b,o,g,e⟩:=h.cell (R6 hx);have d:=h.1;rw[Q3]at d;rw[g];refine ix O O ?_;rw[add_lit];exact nX (by simpa using e) hK
theorem cV.oh {s:Sl}{F:Rg}{xs:List Nat}(h:cV s 1 (ints xs) U F):s.len=xs.length:=by
 have:=h.1;rw[Q3]at this;omega
theorem cV.nil (F:Rg)(a:Option Addr)(c sz:Nat):cV ⟨a,0,c⟩ sz [] U F:=⟨by simp,.inl rfl⟩
theorem bZ.fX {s:Sl}{sz:Nat}{xs:List Value}(hb:bZ U b cs)(ha:s.a=some ⟨b,o,none⟩)(hl:xs.length=s.len*sz)(hc:∀j,j<xs.length->cs[o+j]?=xs[j]?):cV s sz xs U (· = b):=
 ⟨hl,.inr ⟨b,o,cs,rfl,ha,hb.q,hc⟩⟩
theorem cV.any {s:Sl}{sz:Nat}{xs:List Value}{F:Rg}(h:cV s sz xs U F):cV s sz xs U λ_=>True:=(cV.loc s sz xs).mono h λ_ _ _=>trivial
theorem RY {a xa:Option Addr}{xc sz bytes e:Nat}{zs:List Value}{K:Sl->Hp->Prop}(hK:K ⟨a,0,0⟩ U):App ⟨a,0,0⟩ sz bytes e zs ⟨xa,0,xc⟩ U K:=by
 refine⟨[],[],by simp,by simp,by cases a<;>simp[Rd],by cases xa<;>simp[Rd],by simp,by simp,by simp,λ_=>?_,λh=>absurd (zD 0) h⟩
 cases a
 ·exact hK
 ·exact hK
theorem bS.push {F:Rg}{s:Sl}{sz bytes e t:Nat}{zs xs vs:List Value}{K:Sl->Hp->Prop}(ho:bS s sz xs U F)(hF:∀b,U.size<=b->F b)(hz:zs.length=sz)(hv:vs.length=sz)(h1:∀v∈vs,dR v=true)
 (hb:bytes<=1000) (hl:s.len<=1000000) (hK:∀s' h',s'.len=s.len+1->Ext F U h'->bS s' sz (xs++vs) h' F->K s' h') :
 Nw (.cells vs.toArray t (0,0)) U λn v=>App s sz bytes e zs ⟨some n,1,1⟩ v K:=by
 refine nw λv m e1 a=>?_;have d:=(bS.loc s sz xs).bP ho e1;refine d.app (ys:=vs) hz (by simp[hv]) ?_ h1 ?_ ?_ ng λs' h' i p g=>hK s' h' i (e1.to.trans p) ?_
 ·intro j u hu;rw[add_lit,zH,a.cell];exact hu
 ·simp only;have:(s.len+1)*bytes<=1000001*1000:=mb O hb;omega
 ·simp only;omega
 ·exact aI.mono g λb _ r=>by
   rcases r with h|h
   ·exact h
   ·exact hF b O
theorem bS.oh {F:Rg}{s:Sl}{xs:List Nat}(h:bS s 1 (ints xs) U F):s.len=xs.length:=by
 have:=h.1;rw[Q3]at this;omega
theorem Dk {F:Rg}{s:Sl}{sz bytes e:Nat}{zs vs:List Value}{R:Sl->Hp->Prop}(h:cV s sz vs U F)(hpos:0<sz)(hz:zs.length=sz)(h1:∀v∈vs,dR v=true)(hb:bytes<=1000)(hl:s.len<=1000000)
 (hR:∀s' σ',s'.len=s.len->bL U σ'->bS s' sz vs σ' (λb=>U.size<=b)->R s' σ') :
 If s.a.isNone (R ⟨none,0,0⟩ U) (Nw (.cells #[] e (0,0)) U λn v=>App ⟨some n,0,0⟩ sz bytes e zs s v λt v1=>R t v1):=by
 have d:=h.1;refine cU (λm=>?_) λm=>?_
 ·have x:vs=[]:=by
   rcases h.2 with g|⟨b,o,cs,_,ha,_⟩
   ·exact g
   ·rw[ha]at m;cases m
  subst x;have g:s.len=0:=by
   have C:s.len*sz=0:=by simpa using d.symm
   rcases vn.1 C with h|h
   ·exact h
   ·omega
  exact hR _ _ (by simp[g]) (Ext.refl _ _) (bS.nil _ _ _ _)
 ·refine nw (cs:=[]) λv A e1 w=>?_;have z:=(cV.loc s sz vs).bP h e1;rcases B3 s.len with g|g
  ·obtain⟨a,n,c⟩:=s;simp only at g;subst g;have:vs=[]:=by simpa using d
   subst this;exact RY (hR _ _ rfl e1 (bS.nil _ _ _ _))
  ·refine(bS.nil v (λb=>U.size<=b) sz (some ⟨U.size,0,none⟩)).app (ys:=vs) hz d z.rd h1 ?_ ?_ g λs' r p y j=>hR s' r (by simpa using p) ?_ ?_
   ·simp only[zH];have:s.len*bytes<=1000000*1000:=mb hl hb;omega
   ·simp only;omega
   ·exact Ext.fresh e1 y λi u=>u
   ·rw[sH]at j;exact aI.mono j λb _ B=>by
     rcases B with h|h
     ·exact h
     ·omega
def Cut (F:Rg)(U:Hp):Rg:=λb=>F b/\b<U.size
theorem dM.cut {P:Hp->Rg->Prop}(hl:dM P){F:Rg}(h:P U F):P U (Cut F U):=hl.mono h λb a d=>⟨d,a⟩
theorem Ext.cut {F:Rg}{σ':Hp}(e:Ext (Cut F U) U σ'):Ext F U σ':=⟨e.1,λb a d=>e.2 b a λg=>d g.1⟩
theorem Ext.sub {F G:Rg}{a b:Hp}(e:Ext F a b)(h:∀i,F i->G i):Ext G a b:=e.mono λi _ d=>h i d
theorem QR.ext {h h':Hp}{r:Nat}(ho:QR h h' r):Ext (· = r) h h':=Ext.eM ho rfl
theorem Ext.jy {F:Rg}{a b c:Hp}(e:Ext F a b)(k:Ext (Grow F a) b c):Ext F a c:=
 ⟨j9 e.1 k.1,λi g d=>(k.2 i (uu g e.1) λj=>by rcases j with h|h;exact d h;omega).trans (e.2 i g d)⟩
theorem Ext.dS {F G:Rg}{a b c:Hp}(e:Ext F a b)(k:Ext G b c)(h:∀i,G i->F i\/a.size<=i):Ext F a c:=e.jy (k.sub h)
theorem GR {P:Program}{f:Nat}{first caps:Array Value}{args:List Value}{all:Array Value}{rs:List SK}{R:eL (eU rs)}(hok:V9 P f=true)(he:first++args.toArray++caps=all)
 (hc:Wi P f all rs U R):VH P ⟨f,first,caps⟩ args rs U R:=⟨hok,by unfold EK;simp only;rw[he];exact hc⟩
theorem KF {h h':Hp}{F:Nat->Prop}(e:Ext F h h'){b o:Nat}(hb:b<h.size)(hF:¬F b):cell h' ⟨b,o,none⟩=cell h ⟨b,o,none⟩:=by
 unfold cell;rw[e.2 b hb hF]
theorem Ps {h h':Hp}{l:Sl}{xs:List (Int×Int×Int)}{F:Nat->Prop}(ha:iw h l xs)(e:Ext F h h')(hF:∀b,F b->∀o,l.a≠some ⟨b,o,none⟩):iw h' l xs:=by
 refine⟨ha.1,λi x y z r=>?_⟩;obtain⟨b,o,j,d,u,m,s⟩:=ha.2 i x y z r;have g:¬F b:=λp=>hF b p o j;exact⟨b,o,j,uu d e.1,by rw[KF e d g];exact u,by rw[KF e d g];exact m,by rw[KF e d g];exact s⟩
theorem Qb {h h':Hp}{l:Sl}{xs:List (Int×Int×Int)}(ha:iw h l xs)(e:bL h h'):iw h' l xs:=Ps ha e λ_ h=>h.elim
theorem Ah {h:Hp}{l:Sl}{xs:List (Int×Int×Int)}(ha:iw h l xs){i:Nat}{x y z:Int}(hx:xs[i]?=some (x,y,z)){K:Int->Int->Int->Prop}(hK:K x y z) :
 Ix l.a l.len (i:Int) 3 λa=>gJ .i64 (a.add 0) h λu=>gJ .i64 (a.add 1) h λv=>gJ .i64 (a.add 2) h λw=>K u v w:=by
 obtain⟨b,o,j,p,g,d,e⟩:=ha.2 i x y z hx;have m:=(cZ.1 hx).1;rw[j];refine ix O (by rw[ha.1];omega) ?_;rw[add_lit];refine eY (by simpa using g) (eY (by simpa using d) (eY (by simpa using e) hK))
end Go.Vc
namespace Go.Proofs
open Go.Vc
abbrev _root_.R1:=@Wi Tryz.prog
abbrev _root_.R2:=Option Addr
def WS.c (a b c:Int)(d:Bool)(e:Hp)(f:aO):Prop:=R1 9 #[.I a,.I b,.I c,.bool d] [.one .b] e f
def XK.c (a:Hp)(b:aO):Prop:=R1 15 #[] [.one .b] a b
def Wx.c (a:R2)(b:Hp)(c:Sl->Hp->Prop):Prop:=R1 16 #[.pointer a] [.one .s] b c
def Wq.c (a:R2)(b:Hp)(c:aN):Prop:=R1 18 #[.pointer a] [.I] b c
def XG.c (a b:Sl)(c:Hp)(d:aO):Prop:=R1 19 #[.slice a.a a.len a.cap,.slice b.a b.len b.cap] [.one .b] c d
def Wl.c (a:R2)(b c d:Int)(e:Hp)(f:Int->Int->Hp->Prop):Prop:=R1 21 #[.pointer a,.I b,.I c,.I d] [.I,.I] e f
def YX.c (a:R2)(b c d:Int)(e:Hp)(f:Int->Int->Hp->Prop):Prop:=R1 22 #[.pointer a,.I b,.I c,.I d] [.I,.I] e f
def WY.c (a:R2)(b:Hp)(c:Option Addr->Hp->Prop):Prop:=R1 23 #[.pointer a] [.one .p] b c
def Wt.c (a:R2)(b:Hp)(c:Sl->Hp->Prop):Prop:=R1 27 #[.pointer a] [.one .s] b c
def XH.c (a:R2)(b c:Int)(d:Hp)(e:aN):Prop:=R1 29 #[.pointer a,.I b,.I c] [.I] d e
def WB.c (a:R2)(b:Int)(c:Hp)(d:Int->Int->Hp->Prop):Prop:=R1 30 #[.pointer a,.I b] [.I,.I] c d
def YD.c (a:R2)(b:Int)(c:Hp)(d:Int->Int->Hp->Prop):Prop:=R1 32 #[.pointer a,.I b] [.I,.I] c d
def Y3.c (a:R2)(b:Hp)(c:Sl->Hp->Prop):Prop:=R1 33 #[.pointer a] [.one .s] b c
def Wj.c (a:R2)(b c:Int)(d:Hp)(e:aN):Prop:=R1 34 #[.pointer a,.I b,.I c] [.I] d e
def X5.c (a:R2)(b c:Int)(d:Hp)(e:Option Addr->Int->Hp->Prop):Prop:=R1 36 #[.pointer a,.I b,.I c] [.one .p,.I] d e
def Wy.c (a:R2)(b:Int)(c:Hp)(d:Int->Int->Hp->Prop):Prop:=R1 37 #[.pointer a,.I b] [.I,.I] c d
def QY.c (a:R2)(b:Hp)(c:Option Addr->Int->Hp->Prop):Prop:=R1 38 #[.pointer a] [.one .p,.I] b c
def Xw.c (a:Hp)(b:Option Addr->Hp->Prop):Prop:=R1 39 #[] [.one .p] a b
def WZ.c (a:R2)(b c:Int)(d:Hp)(e:aN):Prop:=R1 40 #[.pointer a,.I b,.I c] [.I] d e
def WX.c (a:R2)(b:Hp)(c:Option Addr->Hp->Prop):Prop:=R1 41 #[.pointer a] [.one .p] b c
def W6.c (a b:R2)(c:Hp)(d:Option Addr->Hp->Prop):Prop:=R1 42 #[.pointer a,.pointer b] [.one .p] c d
def W4.c (a:R2)(b:Hp)(c:Option Addr->Hp->Prop):Prop:=R1 43 #[.pointer a] [.one .p] b c
def HR.c (a:R2)(b:Hp)(c:Option Addr->Hp->Prop):Prop:=R1 50 #[.pointer a] [.one .p] b c
def Xn.c (a b c d e f:Int)(g:Hp)(h:Option Addr->Hp->Prop):Prop:=R1 53 #[.agg #[.I a,.I b,.I c,.I d,.I e,.I f]] [.one .p] g h
def Xi.c (a b:Sl)(c:Hp)(d:aO):Prop:=R1 54 #[.slice a.a a.len a.cap,.slice b.a b.len b.cap] [.one .b] c d
def Wf.c (a:R2)(b:Hp)(c:aO):Prop:=R1 55 #[.pointer a] [.one .b] b c
def X2.c (a:R2)(b c d:Int)(e:Hp)(f:Int->Int->Hp->Prop):Prop:=R1 56 #[.pointer a,.I b,.I c,.I d] [.I,.I] e f
def Yf.c (a:R2)(b c d e f:Int)(g:Hp)(h:Int->Int->Hp->Prop):Prop:=R1 57 #[.pointer a,.I b,.agg #[.I c,.I d,.I e,.I f]] [.I,.I] g h
def WT.c (a:R2)(b:Hp)(c:aO):Prop:=R1 58 #[.pointer a] [.one .b] b c
def ZC.c (a:R2)(b:Int)(c:Fv)(d:Hp)(e:Int->Int->Int->Int->Int->Bool->Hp->Prop):Prop:=R1 59 #[.pointer a,.I b,.func (.func c.f) c.first c.captured] [.agg [bO,bO,bO,bO,bO],.one .b] d e
def YO.c (a:R2)(b:Hp)(c:Option Addr->Hp->Prop):Prop:=R1 61 #[.pointer a] [.one .p] b c
def YB.c (a:R2)(b c:Int)(d:Hp)(e:aN):Prop:=R1 62 #[.pointer a,.I b,.I c] [.I] d e
def Wv.c (a:R2)(b:Int)(c:Hp)(d:aN):Prop:=R1 63 #[.pointer a,.I b] [.I] c d
def WG.c (a:R2)(b:Int)(c:Hp)(d:aP):Prop:=R1 64 #[.pointer a,.I b] [] c d
def YV.c (a:R2)(b:Int)(c:Hp)(d:Int->Int->Hp->Prop):Prop:=R1 65 #[.pointer a,.I b] [.I,.I] c d
def VY.c (a:Fv)(b:Hp)(c:Sl->Hp->Prop):Prop:=R1 66 #[.func (.func a.f) a.first a.captured] [.one .s] b c
def Zu.c (a:Option Nat)(b:Hp)(c:Fv->Hp->Prop):Prop:=R1 67 #[.map a] [.one .fn] b c
def WP.c (a:R2)(b:Int)(c:Hp)(d:aO):Prop:=R1 68 #[.pointer a,.I b] [.one .b] c d
def WF.c (a:R2)(b:Int)(c:Hp)(d:Int->Int->Int->Int->Bool->Hp->Prop):Prop:=R1 69 #[.pointer a,.I b] [.agg [bO,bO,bO,bO],.one .b] c d
def Y8.c (a:R2)(b c:Int)(d:Hp)(e:aN):Prop:=R1 70 #[.pointer a,.I b,.I c] [.I] d e
def XU.c (a:R2)(b:Int)(c:Hp)(d:Sl->Int->Hp->Prop):Prop:=R1 71 #[.pointer a,.I b] [.one .s,.I] c d
def XP.c (a b c d:Int)(e:Hp)(f:Sl->Hp->Prop):Prop:=R1 72 #[.agg #[.I a,.I b,.I c,.I d]] [.one .s] e f
def XL.c (a:R2)(b:Hp)(c:aO):Prop:=R1 73 #[.pointer a] [.one .b] b c
def WL.c (a:R2)(b:Int)(c:Hp)(d:aO):Prop:=R1 75 #[.pointer a,.I b] [.one .b] c d
def Y4.c (a:R2)(b:Int)(c:Hp)(d:Int->Int->Hp->Prop):Prop:=R1 76 #[.pointer a,.I b] [.I,.I] c d
def QM.c (a:R2)(b:Hp)(c:aO):Prop:=R1 77 #[.pointer a] [.one .b] b c
def HT.c (a:R2)(b c:Int)(d:Hp)(e:aN):Prop:=R1 78 #[.pointer a,.I b,.I c] [.I] d e
def Wh.c (a:Sl)(b:Hp)(c:Sl->Hp->Prop):Prop:=R1 79 #[.slice a.a a.len a.cap] [.one .s] b c
def Kv.c (a:Sl)(b:Hp)(c:Sl->Hp->Prop):Prop:=R1 80 #[.slice a.a a.len a.cap] [.one .s] b c
def ZF.c (a:R2)(b c:Int)(d:Hp)(e:aN):Prop:=R1 81 #[.pointer a,.I b,.I c] [.I] d e
def Ze.c (a:R2)(b c d e f:Int)(g:Hp)(h:aN):Prop:=R1 83 #[.pointer a,.I b,.agg #[.I c,.I d,.I e,.I f]] [.I] g h
def Zj.c (a:R2)(b:Int)(c:Hp)(d:Bool->Int->Int->Int->Hp->Prop):Prop:=R1 84 #[.pointer a,.I b] [.one .b,.agg [bO,bO],.I] c d
def XT.c (a:R2)(b:Hp)(c:aN):Prop:=R1 90 #[.pointer a] [.I] b c
def X7.c (a:Int)(b:Hp)(c:Sl->Int->Hp->Prop):Prop:=R1 96 #[.I a] [.one .s,.I] b c
def KY.c (a:Sl)(b c d e f:Int)(g:Hp)(h:Option Addr->Int->Hp->Prop):Prop:=R1 97 #[.slice a.a a.len a.cap,.agg #[.I b,.I c,.I d,.I e,.I f]] [.one .p,.I] g h
def XB.c (a b c d e:Int)(f:Hp)(g:aN):Prop:=R1 98 #[.agg #[.I a,.I b,.I c,.I d,.I e]] [.I] f g
def XS.c (a:R2)(b:Int)(c:Hp)(d:Int->Int->Hp->Prop):Prop:=R1 99 #[.pointer a,.I b] [.I,.I] c d
def XX.c (a b c d e:Int)(f:Hp)(g:Fv->Hp->Prop):Prop:=R1 100 #[.agg #[.I a,.I b,.I c,.I d,.I e]] [.one .fn] f g
def ZU.c (a:Int)(b:Hp)(c:aN):Prop:=R1 101 #[.I a] [.I] b c
def Ys.c (a:R2)(b c d e f g:Int)(h:Hp)(i:aP):Prop:=R1 102 #[.pointer a,.agg #[.I b,.I c,.I d,.I e,.I f],.I g] [] h i
def Xz.c (a:R2)(b c d e f:Int)(g:Hp)(h:aO):Prop:=R1 103 #[.pointer a,.agg #[.I b,.I c,.I d,.I e,.I f]] [.one .b] g h
def XF.c (a:R2)(b c:Int)(d:Hp)(e:aN):Prop:=R1 104 #[.pointer a,.I b,.I c] [.I] d e
def Zi.c (a:R2)(b c:Int)(d:Hp)(e:aP):Prop:=R1 105 #[.pointer a,.I b,.I c] [] d e
def XR.c (a:R2)(b:Hp)(c:Int->Int->Int->Int->Int->Hp->Prop):Prop:=R1 106 #[.pointer a] [.agg [bO,bO,bO,bO,bO]] b c
def YR.c (a:R2)(b:Int)(c:Hp)(d:ByteArray->Hp->Prop):Prop:=R1 107 #[.pointer a,.I b] [.one .str] c d
def W8.c (a:Sl)(b:Hp)(c:aN):Prop:=R1 108 #[.slice a.a a.len a.cap] [.I] b c
def Zb.c (a:R2)(b c:Int)(d:Hp)(e:aN):Prop:=R1 109 #[.pointer a,.I b,.I c] [.I] d e
def Zh.c (a:R2)(b:Int)(c:Hp)(d:aN):Prop:=R1 110 #[.pointer a,.I b] [.I] c d
def VI.c (a:Fv)(b:Hp)(c:Sl->Hp->Prop):Prop:=R1 111 #[.func (.func a.f) a.first a.captured] [.one .s] b c
def Qk.c (a:Fv)(b:Addr)(c:Hp)(d:aP):Prop:=R1 113 #[.func (.func a.f) a.first a.captured,.pointer (some b)] [] c d
def Wb.c (a:Sl)(b:Fv)(c:Hp)(d:aO):Prop:=R1 114 #[.slice a.a a.len a.cap,.func (.func b.f) b.first b.captured] [.one .b] c d
def W5.c (a b:Int)(c:Addr)(d:Hp)(e:aO):Prop:=R1 115 #[.agg #[.I a,.I b],.pointer (some c)] [.one .b] d e
def Wg.c (a:Sl)(b:Int)(c:Fv)(d:Hp)(e:Int->Bool->Hp->Prop):Prop:=R1 116 #[.slice a.a a.len a.cap,.I b,.func (.func c.f) c.first c.captured] [.I,.one .b] d e
def WU.c (a b c d e:Int)(f:Hp)(g:aN):Prop:=R1 117 #[.agg #[.I a,.I b,.I c,.I d],.I e] [.I] f g
def XQ.c (a:R2)(b c:Int)(d:Bool)(e:Hp)(f:aN):Prop:=R1 118 #[.pointer a,.I b,.I c,.bool d] [.I] e f
def XI.c (a:R2)(b c d e f:Int)(g:Hp)(h:Sl->Hp->Prop):Prop:=R1 119 #[.pointer a,.agg #[.I b,.I c,.I d,.I e,.I f]] [.one .s] g h
def QE.c (a:Fv)(b:Addr)(c:Hp)(d:aP):Prop:=R1 120 #[.func (.func a.f) a.first a.captured,.pointer (some b)] [] c d
def WV.c (a b:Int)(c d:Addr)(e:Hp)(f:aO):Prop:=R1 121 #[.agg #[.I a,.I b],.pointer (some c),.pointer (some d)] [.one .b] e f
def WA.c (a:Sl)(b:Int)(c:Hp)(d:aO):Prop:=R1 122 #[.slice a.a a.len a.cap,.I b] [.one .b] c d
def YY.c (a:R2)(b:Int)(c:Hp)(d:aN):Prop:=R1 123 #[.pointer a,.I b] [.I] c d
def Yk.c (a:R2)(b:Int)(c:Hp)(d:aO):Prop:=R1 124 #[.pointer a,.I b] [.one .b] c d
def Yx.c (a:R2)(b c d e:Int)(f:Hp)(g:Value->Hp->Prop):Prop:=R1 125 #[.pointer a,.agg #[.I b,.I c,.I d,.I e]] [.one .raw] f g
def ZD.c (a:R2)(b:Int)(c:Value)(d:Hp)(e:Value->Int->Int->Hp->Prop):Prop:=R1 126 #[.pointer a,.I b,c] [.one .raw,.agg [bO,bO]] d e
def X0.c (a:R2)(b:Hp)(c:aN):Prop:=R1 130 #[.pointer a] [.I] b c
def XN.c (a:R2)(b:Hp)(c:aO):Prop:=R1 131 #[.pointer a] [.one .b] b c
def Xs.c (a:R2)(b:Hp)(c:aO):Prop:=R1 132 #[.pointer a] [.one .b] b c
def Xr.c (a:R2)(b:Hp)(c:aO):Prop:=R1 133 #[.pointer a] [.one .b] b c
def Wp.c (a:Sl)(b:Hp)(c:Sl->Hp->Prop):Prop:=R1 141 #[.slice a.a a.len a.cap] [.one .s] b c
def W3.c (a:Sl)(b:Hp)(c:Sl->Hp->Prop):Prop:=R1 146 #[.slice a.a a.len a.cap] [.one .s] b c
def Xu.c (a b:Int)(c:Hp)(d:Int->Int->Int->Hp->Prop):Prop:=R1 148 #[.I a,.I b] [.agg [bO,bO,bO]] c d
def X6.c (a b:Int)(c:Hp)(d:aN):Prop:=R1 149 #[.I a,.I b] [.I] c d
def Xd.c (a b c:Int)(d:Hp)(e:aN):Prop:=R1 150 #[.agg #[.I a,.I b,.I c]] [.I] d e
def ZO.c (a:Sl)(b:Hp)(c:aO):Prop:=R1 151 #[.slice a.a a.len a.cap] [.one .b] b c
def QN.c (a b c d e:Int)(f:Hp)(g:aO):Prop:=R1 152 #[.agg #[.I a,.I b,.I c,.I d,.I e]] [.one .b] f g
def Kh.c (a:Int)(b:Hp)(c:Option Addr->Int->Hp->Prop):Prop:=R1 153 #[.I a] [.one .p,.I] b c
def Kj.c (a:Sl)(b:R2)(c:Int)(d:Hp)(e:Option Addr->Int->Hp->Prop):Prop:=R1 154 #[.slice a.a a.len a.cap,.pointer b,.I c] [.one .p,.I] d e
def Ki.c (a:Sl)(b:Int)(c:Hp)(d:Option Addr->Int->Hp->Prop):Prop:=R1 155 #[.slice a.a a.len a.cap,.I b] [.one .p,.I] c d
def Wr.c (a:Sl)(b c:Bool)(d:Hp)(e:aO):Prop:=R1 157 #[.slice a.a a.len a.cap,.agg #[.bool b,.bool c]] [.one .b] d e
def We.c (a:Sl)(b:Fv)(c:Hp)(d:aN):Prop:=R1 161 #[.slice a.a a.len a.cap,.func (.func b.f) b.first b.captured] [.I] c d
def Yw.c (a:R2)(b:Int)(c:Hp)(d:aN):Prop:=R1 162 #[.pointer a,.I b] [.I] c d
def W0.c (a:Sl)(b:Int)(c:Hp)(d:aN):Prop:=R1 163 #[.slice a.a a.len a.cap,.I b] [.I] c d
def Qx.c (a:Sl)(b c:Int)(d:Hp)(e:Int->Int->Hp->Prop):Prop:=R1 164 #[.slice a.a a.len a.cap,.I b,.I c] [.I,.I] d e
def ZH.c (a:R2)(b:Int)(c:Hp)(d:aN):Prop:=R1 165 #[.pointer a,.I b] [.I] c d
def Ym.c (a:R2)(b:Int)(c:Hp)(d:Int->Int->Hp->Prop):Prop:=R1 166 #[.pointer a,.I b] [.I,.I] c d
def YU.c (a:R2)(b c d:Int)(e:Hp)(f:Value->Int->Int->Hp->Prop):Prop:=R1 167 #[.pointer a,.I b,.I c,.I d] [.one .raw,.agg [bO,bO]] e f
def Yn.c (a:R2)(b:Int)(c:Hp)(d:Int->Int->Hp->Prop):Prop:=R1 168 #[.pointer a,.I b] [.I,.I] c d
def WQ.c (a:R2)(b:Int)(c:Hp)(d:Sl->Int->Hp->Prop):Prop:=R1 169 #[.pointer a,.I b] [.one .s,.I] c d
def YF.c (a:R2)(b c:Int)(d:Sl)(e:Hp)(f:aP):Prop:=R1 170 #[.pointer a,.I b,.I c,.slice d.a d.len d.cap] [] e f
def WW.c (a:R2)(b c:Int)(d:Hp)(e:Sl->Int->Hp->Prop):Prop:=R1 171 #[.pointer a,.I b,.I c] [.one .s,.I] d e
def Ye.c (a:R2)(b:Int)(c:Hp)(d:aN):Prop:=R1 172 #[.pointer a,.I b] [.I] c d
def Yc.c (a:R2)(b:Int)(c:Sl)(d:Hp)(e:aN):Prop:=R1 173 #[.pointer a,.I b,.slice c.a c.len c.cap] [.I] d e
def Xc.c (a:R2)(b c:Int)(d:Hp)(e:Int->Int->Hp->Prop):Prop:=R1 174 #[.pointer a,.I b,.I c] [.I,.I] d e
def ZE.c (a:R2)(b c:Int)(d:Hp)(e:Value->Int->Int->Hp->Prop):Prop:=R1 175 #[.pointer a,.I b,.I c] [.one .raw,.agg [bO,bO]] d e
def YP.c (a:R2)(b c:Int)(d:Hp)(e:Sl->Int->Hp->Prop):Prop:=R1 176 #[.pointer a,.I b,.I c] [.one .s,.I] d e
def Yl.c (a:R2)(b:Hp)(c:aO):Prop:=R1 177 #[.pointer a] [.one .b] b c
def Xm.c (a:R2)(b:Hp)(c:Sl->Hp->Prop):Prop:=R1 178 #[.pointer a] [.one .s] b c
def Xj.c (a:R2)(b:Int)(c:Hp)(d:Value->Hp->Prop):Prop:=R1 179 #[.pointer a,.I b] [.one .raw] c d
def WC.c (a:Sl)(b:Hp)(c:Sl->Hp->Prop):Prop:=R1 180 #[.slice a.a a.len a.cap] [.one .s] b c
def ZA.c (a:R2)(b c:Int)(d:Sl)(e:Hp)(f:aP):Prop:=R1 181 #[.pointer a,.I b,.agg #[.I c,.slice d.a d.len d.cap]] [] e f
def Xb.c (a:R2)(b:Int)(c:Hp)(d:aN):Prop:=R1 182 #[.pointer a,.I b] [.I] c d
def XZ.c (a:R2)(b:Hp)(c:Sl->Hp->Prop):Prop:=R1 183 #[.pointer a] [.one .s] b c
def Yj.c (a:R2)(b:Sl)(c:Hp)(d:aP):Prop:=R1 184 #[.pointer a,.slice b.a b.len b.cap] [] c d
def X3.c (a:R2)(b:Hp)(c:Sl->Hp->Prop):Prop:=R1 185 #[.pointer a] [.one .s] b c
def Xa.c (a:R2)(b:Int)(c:Sl)(d:Hp)(e:aN):Prop:=R1 194 #[.pointer a,.I b,.slice c.a c.len c.cap] [.I] d e
def QX.c (a b c:Int)(d:Hp)(e:aO):Prop:=R1 195 #[.agg #[.I a,.I b,.I c]] [.one .b] d e
def ZR.c (a b c:Int)(d:Hp)(e:aN):Prop:=R1 196 #[.agg #[.I a,.I b,.I c]] [.I] d e
def W9.c (a:R2)(b:Hp)(c:aO):Prop:=R1 197 #[.pointer a] [.one .b] b c
def ZS.c (a:R2)(b:Hp)(c:Int->Int->Hp->Prop):Prop:=R1 198 #[.pointer a] [.agg [bO,bO]] b c
def Xy.c (a:R2)(b:Hp)(c:aO):Prop:=R1 199 #[.pointer a] [.one .b] b c
def YC.c (a:R2)(b:Hp)(c:aN):Prop:=R1 201 #[.pointer a] [.I] b c
def Yh.c (a:R2)(b:Hp)(c:aO):Prop:=R1 202 #[.pointer a] [.one .b] b c
def Qt.c (a:Hp)(b:Option Addr->Hp->Prop):Prop:=R1 209 #[] [.one .p] a b
def Kl.c (a:Int)(b:Hp)(c:Option Addr->Int->Hp->Prop):Prop:=R1 210 #[.I a] [.one .p,.I] b c
def KX.c (a:Int)(b:Hp)(c:Option Addr->Int->Hp->Prop):Prop:=R1 211 #[.I a] [.one .p,.I] b c
def Qy.c (a b c:Int)(d:Hp)(e:Option Addr->Int->Hp->Prop):Prop:=R1 212 #[.agg #[.I a,.I b,.I c]] [.one .p,.I] d e
def Z5.c (a b:Int)(c:Hp)(d:Option Addr->Int->Hp->Prop):Prop:=R1 213 #[.I a,.I b] [.one .p,.I] c d
def Wz.c (a:Sl)(b c:Bool)(d:Hp)(e:aN):Prop:=R1 214 #[.slice a.a a.len a.cap,.agg #[.bool b,.bool c]] [.I] d e
def Qv.c (a:Int)(b:Hp)(c:aN):Prop:=R1 226 #[.I a] [.I] b c
def Wu.c (a:Sl)(b:Fv)(c:Hp)(d:aN):Prop:=R1 227 #[.slice a.a a.len a.cap,.func (.func b.f) b.first b.captured] [.I] c d
def Z7.c (a b c:Int)(d e:Addr)(f:Hp)(g:aO):Prop:=R1 228 #[.agg #[.I a,.I b,.I c],.pointer (some d),.pointer (some e)] [.one .b] f g
def XC.c (a:R2)(b:Int)(c:Hp)(d:Option Addr->Int->Hp->Prop):Prop:=R1 229 #[.pointer a,.I b] [.one .p,.I] c d
def Yo.c (a:R2)(b:Int)(c:Hp)(d:aN):Prop:=R1 230 #[.pointer a,.I b] [.I] c d
def Xe.c (a:R2)(b:Int)(c:Hp)(d:aN):Prop:=R1 231 #[.pointer a,.I b] [.I] c d
def WR.c (a:R2)(b:Hp)(c:Sl->Int->Hp->Prop):Prop:=R1 232 #[.pointer a] [.one .s,.I] b c
def Xp.c (a:R2)(b:Int)(c:Hp)(d:Sl->Int->Hp->Prop):Prop:=R1 233 #[.pointer a,.I b] [.one .s,.I] c d
def YN.c (a:R2)(b c d:Int)(e:Hp)(f:Int->Int->Hp->Prop):Prop:=R1 234 #[.pointer a,.I b,.I c,.I d] [.I,.I] e f
def Y6.c (a:R2)(b:Int)(c:Hp)(d:aN):Prop:=R1 235 #[.pointer a,.I b] [.I] c d
def Xg.c (a:Sl)(b:Hp)(c:aP):Prop:=R1 236 #[.slice a.a a.len a.cap] [] b c
def Xh.c (a:R2)(b:Sl)(c:Hp)(d:aN):Prop:=R1 237 #[.pointer a,.slice b.a b.len b.cap] [.I] c d
def Y9.c (a:R2)(b:Int)(c:Hp)(d:Int->Int->Int->Hp->Prop):Prop:=R1 238 #[.pointer a,.I b] [.I,.I,.I] c d
def Xq.c (a:R2)(b:Int)(c:Hp)(d:Sl->Hp->Prop):Prop:=R1 239 #[.pointer a,.I b] [.one .s] c d
def Xv.c (a:R2)(b:Fv)(c:Hp)(d:Sl->Hp->Prop):Prop:=R1 240 #[.pointer a,.func (.func b.f) b.first b.captured] [.one .s] c d
def XE.c (a:R2)(b:Int)(c:Hp)(d:Sl->Hp->Prop):Prop:=R1 241 #[.pointer a,.I b] [.one .s] c d
def W7.c (a:R2)(b:Int)(c:Sl)(d:Hp)(e:Bool->Int->Hp->Prop):Prop:=R1 242 #[.pointer a,.I b,.slice c.a c.len c.cap] [.one .b,.I] d e
def YG.c (a:R2)(b:Int)(c:Hp)(d:Sl->Hp->Prop):Prop:=R1 243 #[.pointer a,.I b] [.one .s] c d
def X1.c (a:R2)(b c:Int)(d:Hp)(e:aN):Prop:=R1 244 #[.pointer a,.I b,.I c] [.I] d e
def XD.c (a:R2)(b c:Int)(d:Hp)(e:aN):Prop:=R1 245 #[.pointer a,.I b,.I c] [.I] d e
def Yg.c (a:R2)(b c:Int)(d:Hp)(e:aN):Prop:=R1 246 #[.pointer a,.I b,.I c] [.I] d e
def Wk.c (a:Sl)(b:Fv)(c:Hp)(d:Sl->Hp->Prop):Prop:=R1 247 #[.slice a.a a.len a.cap,.func (.func b.f) b.first b.captured] [.one .s] c d
def X8.c (a b:Int)(c:R2)(d:Addr)(e:Hp)(f:aO):Prop:=R1 248 #[.agg #[.I a,.I b,.pointer c],.pointer (some d)] [.one .b] e f
def XA.c (a:R2)(b:Hp)(c:aO):Prop:=R1 249 #[.pointer a] [.one .b] b c
def Y1.c (a:R2)(b:Hp)(c:aN):Prop:=R1 250 #[.pointer a] [.I] b c
def Zp.c (a:R2)(b:Int)(c:Hp)(d:Sl->Hp->Prop):Prop:=R1 252 #[.pointer a,.I b] [.one .s] c d
def XV.c (a:R2)(b c d:Int)(e:Sl)(f:Hp)(g:aN):Prop:=R1 256 #[.pointer a,.I b,.I c,.I d,.slice e.a e.len e.cap] [.I] f g
def Yu.c (a:R2)(b:Int)(c:Hp)(d:Sl->Int->Hp->Prop):Prop:=R1 259 #[.pointer a,.I b] [.one .s,.I] c d
def QI.c (a:Sl)(b:Int)(c:Hp)(d:aP):Prop:=R1 261 #[.slice a.a a.len a.cap,.I b] [] c d
def YW.c (a:R2)(b c:Int)(d:Hp)(e:aN):Prop:=R1 262 #[.pointer a,.I b,.I c] [.I] d e
def Yy.c (a:R2)(b:Int)(c:Hp)(d:aO):Prop:=R1 263 #[.pointer a,.I b] [.one .b] c d
def ZB.c (a:R2)(b c:Int)(d:Hp)(e:aP):Prop:=R1 264 #[.pointer a,.I b,.I c] [] d e
def YZ.c (a:R2)(b:Sl)(c:Hp)(d:Sl->Int->Hp->Prop):Prop:=R1 267 #[.pointer a,.slice b.a b.len b.cap] [.one .s,.I] c d
def Yz.c (a:R2)(b:Hp)(c:aO):Prop:=R1 268 #[.pointer a] [.one .b] b c
def XO.c (a:R2)(b:Hp)(c:aO):Prop:=R1 270 #[.pointer a] [.one .b] b c
def YQ.c (a:R2)(b c d:Int)(e:Hp)(f:aN):Prop:=R1 272 #[.pointer a,.I b,.I c,.I d] [.I] e f
def ZI.c (a b c:Int)(d:Hp)(e:Int->Int->Hp->Prop):Prop:=R1 274 #[.agg #[.I a,.I b,.I c]] [.I,.I] d e
def Zz.c (a:R2)(b:Int)(c:Hp)(d:Option Addr->Hp->Prop):Prop:=R1 281 #[.pointer a,.I b] [.one .p] c d
def Ws.c (a:Sl)(b:Fv)(c:Hp)(d:aN):Prop:=R1 282 #[.slice a.a a.len a.cap,.func (.func b.f) b.first b.captured] [.I] c d
def Zc.c (a:R2)(b:Addr)(c:Hp)(d:aO):Prop:=R1 283 #[.pointer a,.pointer (some b)] [.one .b] c d
def Y7.c (a:R2)(b:Int)(c:Hp)(d:aO):Prop:=R1 284 #[.pointer a,.I b] [.one .b] c d
def Za.c (a:R2)(b:Hp)(c:Int->Bool->Hp->Prop):Prop:=R1 285 #[.pointer a] [.I,.one .b] b c
def XY.c (a:R2)(b c:Int)(d:Hp)(e:Int->Int->Hp->Prop):Prop:=R1 286 #[.pointer a,.I b,.I c] [.I,.I] d e
def Y5.c (a:R2)(b:Int)(c:Hp)(d:aO):Prop:=R1 287 #[.pointer a,.I b] [.one .b] c d
def XM.c (a:R2)(b c:Int)(d:Hp)(e:aN):Prop:=R1 288 #[.pointer a,.I b,.I c] [.I] d e
def Yr.c (a:R2)(b c d:Int)(e:Hp)(f:aN):Prop:=R1 289 #[.pointer a,.I b,.I c,.I d] [.I] e f
def KW.c (a b c d:Int)(e:Hp)(f:Option Addr->Int->Hp->Prop):Prop:=R1 290 #[.I a,.agg #[.I b,.I c,.I d]] [.one .p,.I] e f
def Wc.c (a:Sl)(b:Int)(c:Fv)(d:Hp)(e:Int->Bool->Hp->Prop):Prop:=R1 291 #[.slice a.a a.len a.cap,.I b,.func (.func c.f) c.first c.captured] [.I,.one .b] d e
def YS.c (a b:Int)(c:R2)(d:Int)(e:Hp)(f:aN):Prop:=R1 292 #[.agg #[.I a,.I b,.pointer c],.I d] [.I] e f
def Wn.c (a:Sl)(b:Int)(c:Sl)(d:Hp)(e:Sl->Hp->Prop):Prop:=R1 293 #[.slice a.a a.len a.cap,.I b,.slice c.a c.len c.cap] [.one .s] d e
def Xx.c (a:Sl)(b:Hp)(c:Sl->Hp->Prop):Prop:=R1 294 #[.slice a.a a.len a.cap] [.one .s] b c
def Zn.c (a:R2)(b:Int)(c:Hp)(d:aN):Prop:=R1 295 #[.pointer a,.I b] [.I] c d
def Yv.c (a:R2)(b:Int)(c:Hp)(d:Int->Int->Hp->Prop):Prop:=R1 296 #[.pointer a,.I b] [.I,.I] c d
def Qc.c (a:Sl)(b:Fv)(c:Hp)(d:aP):Prop:=R1 297 #[.slice a.a a.len a.cap,.func (.func b.f) b.first b.captured] [] c d
def Xl.c (a:R2)(b:Int)(c:Hp)(d:Bool->Int->Hp->Prop):Prop:=R1 299 #[.pointer a,.I b] [.one .b,.I] c d
def Xo.c (a:R2)(b:Sl)(c:Hp)(d:Bool->Int->Hp->Prop):Prop:=R1 300 #[.pointer a,.slice b.a b.len b.cap] [.one .b,.I] c d
def Yq.c (a:R2)(b c:Int)(d:Hp)(e:aP):Prop:=R1 301 #[.pointer a,.I b,.I c] [] d e
def Wo.c (a:Sl)(b:Fv)(c:Hp)(d:aN):Prop:=R1 302 #[.slice a.a a.len a.cap,.func (.func b.f) b.first b.captured] [.I] c d
def WN.c (a:Sl)(b:Fv)(c:Hp)(d:aO):Prop:=R1 304 #[.slice a.a a.len a.cap,.func (.func b.f) b.first b.captured] [.one .b] c d
def YH.c (a:Int)(b:Addr)(c:Hp)(d:aO):Prop:=R1 305 #[.I a,.pointer (some b)] [.one .b] c d
def Zl.c (a:R2)(b c:Int)(d:Hp)(e:Sl->Int->Hp->Prop):Prop:=R1 306 #[.pointer a,.I b,.I c] [.one .s,.I] d e
def Zg.c (a:R2)(b c:Int)(d e:Bool)(f:Hp)(g:aP):Prop:=R1 307 #[.pointer a,.I b,.I c,.agg #[.bool d,.bool e]] [] f g
def XJ.c (a:R2)(b:Int)(c:Hp)(d:Int->Int->Bool->Hp->Prop):Prop:=R1 308 #[.pointer a,.I b] [.I,.I,.one .b] c d
def XW.c (a:R2)(b:Int)(c:Hp)(d:Option Addr->Hp->Prop):Prop:=R1 310 #[.pointer a,.I b] [.one .p] c d
def ZG.c (a:R2)(b:Int)(c:Hp)(d:aN):Prop:=R1 311 #[.pointer a,.I b] [.I] c d
def Zk.c (a:R2)(b c:Int)(d:Hp)(e:aP):Prop:=R1 312 #[.pointer a,.I b,.I c] [] d e
def X4.c (a:R2)(b:Int)(c:Hp)(d:aN):Prop:=R1 314 #[.pointer a,.I b] [.I] c d
def Xk.c (a b c d:Int)(e:Hp)(f:aO):Prop:=R1 315 #[.agg #[.I a,.I b],.agg #[.I c,.I d]] [.one .b] e f
def Zy.c (a:R2)(b:Hp)(c:Int->Int->Hp->Prop):Prop:=R1 316 #[.pointer a] [.I,.I] b c
def QA.c (a:Option Nat)(b:Hp)(c:Fv->Hp->Prop):Prop:=R1 317 #[.map a] [.one .fn] b c
def Zo.c (a:R2)(b c:Int)(d:Hp)(e:aN):Prop:=R1 318 #[.pointer a,.I b,.I c] [.I] d e
def Yd.c (a:R2)(b:Int)(c:Hp)(d:aN):Prop:=R1 319 #[.pointer a,.I b] [.I] c d
def KM.c (a:Sl)(b:Int)(c:Hp)(d:aP):Prop:=R1 321 #[.slice a.a a.len a.cap,.I b] [] c d
def Yi.c (a:R2)(b:Int)(c:Hp)(d:Int->Int->Hp->Prop):Prop:=R1 322 #[.pointer a,.I b] [.I,.I] c d
def YE.c (a:R2)(b:Int)(c:Hp)(d:Bool->Int->Hp->Prop):Prop:=R1 324 #[.pointer a,.I b] [.one .b,.I] c d
def Zm.c (a:R2)(b c:Int)(d:Hp)(e:aP):Prop:=R1 325 #[.pointer a,.I b,.I c] [] d e
def Xf.c (a:Sl)(b:Fv)(c:Hp)(d:aN):Prop:=R1 334 #[.slice a.a a.len a.cap,.func (.func b.f) b.first b.captured] [.I] c d
def Yp.c (a:R2)(b:Int)(c:Hp)(d:Int->Int->Hp->Prop):Prop:=R1 335 #[.pointer a,.I b] [.I,.I] c d
def Zf.c (a:R2)(b:Int)(c:Sl)(d:Hp)(e:aP):Prop:=R1 336 #[.pointer a,.I b,.slice c.a c.len c.cap] [] d e
def WM.c (a:R2)(b:Hp)(c:Option Addr->Hp->Prop):Prop:=R1 337 #[.pointer a] [.one .p] b c
def WO.c (a:R2)(b:Hp)(c:Option Addr->Hp->Prop):Prop:=R1 338 #[.pointer a] [.one .p] b c
def YA.c (a:R2)(b:Int)(c:Hp)(d:aN):Prop:=R1 339 #[.pointer a,.I b] [.I] c d
def Kw.c (a:Fv)(b:Addr)(c:Hp)(d:aP):Prop:=R1 340 #[.func (.func a.f) a.first a.captured,.pointer (some b)] [] c d
def Wm.c (a:Sl)(b:Fv)(c:Hp)(d:aO):Prop:=R1 341 #[.slice a.a a.len a.cap,.func (.func b.f) b.first b.captured] [.one .b] c d
def YJ.c (a b:Bool)(c:Hp)(d:aO):Prop:=R1 342 #[.agg #[.bool a,.bool b]] [.one .b] c d
def Ww.c (a:Sl)(b:Fv)(c:Hp)(d:aN):Prop:=R1 355 #[.slice a.a a.len a.cap,.func (.func b.f) b.first b.captured] [.I] c d
def Z4.c (a:Int)(b:Hp)(c:ByteArray->Hp->Prop):Prop:=R1 379 #[.agg #[.I a]] [.one .str] b c
def ZV.c (a:Int)(b:Hp)(c:ByteArray->Hp->Prop):Prop:=R1 380 #[.agg #[.I a]] [.one .str] b c
def Z3.c (a:Int)(b:Hp)(c:ByteArray->Hp->Prop):Prop:=R1 381 #[.agg #[.I a]] [.one .str] b c
def ZW.c (a:Hp)(b:ByteArray->Hp->Prop):Prop:=R1 382 #[.agg #[]] [.one .str] a b
def Zd.c (a b:Int)(c:Hp)(d:ByteArray->Hp->Prop):Prop:=R1 383 #[.agg #[.I a,.I b]] [.one .str] c d
def Z6.c (a:Hp)(b:ByteArray->Hp->Prop):Prop:=R1 384 #[.agg #[]] [.one .str] a b
def Zv.c (a b:Int)(c:Hp)(d:ByteArray->Hp->Prop):Prop:=R1 385 #[.agg #[.I a,.I b]] [.one .str] c d
def Z9.c (a b:Int)(c:Hp)(d:ByteArray->Hp->Prop):Prop:=R1 386 #[.agg #[.I a,.I b]] [.one .str] c d
def Qj.c (a b:Int)(c:Hp)(d:ByteArray->Hp->Prop):Prop:=R1 387 #[.agg #[.I a,.I b]] [.one .str] c d
def Z8.c (a:Hp)(b:ByteArray->Hp->Prop):Prop:=R1 388 #[.agg #[]] [.one .str] a b
def Z2.c (a b:Int)(c:Hp)(d:ByteArray->Hp->Prop):Prop:=R1 389 #[.agg #[.I a,.I b]] [.one .str] c d
set_option maxRecDepth 100000
def Yh.h:Hn:=.q .o1 (.q (.cW (.seq [.op,.op,.op,.cR true 5 (RI.ops 5),.op])) .l)
abbrev _root_.aQ(a:Addr)(n:Nat)(h:Hp)(K:Int->Prop):Prop:=gJ .i64 (a.add n) h K
abbrev _root_.aR(a:Addr)(n:Nat)(v:Value)(h:Hp)(K:Hp->Prop):Prop:=dU (a.add n) v h K
abbrev _root_.aX(a:Addr)(n:Nat)(h:Hp)(K:Sl->Prop):Prop:=ju (a.add n) h K
abbrev _root_.aY(a:Addr)(n:Nat)(h:Hp)(K:Option Addr->Prop):Prop:=fS (a.add n) h K
abbrev _root_.aZ(a:Addr)(n:Nat)(h:Hp)(K:Bool->Prop):Prop:=l5 (a.add n) h K
abbrev _root_.bA(a:Addr)(n:Nat)(h:Hp)(K:Value->Prop):Prop:=yG (a.add n) h K
abbrev _root_.bC(a:Addr)(n:Nat)(h:Hp)(K:Option Nat->Prop):Prop:=lr (a.add n) h K
abbrev _root_.bD(a:Addr)(n:Nat)(h:Hp)(K:ByteArray->Prop):Prop:=AN (a.add n) h K
abbrev _root_.bE(p:Option Addr)(n:Nat)(h:Hp)(K:Int->Prop):Prop:=bX p λa=>gJ .i64 (a.add n) h K
abbrev _root_.bF(p:Option Addr)(n:Nat)(h:Hp)(K:Sl->Prop):Prop:=bX p λa=>ju (a.add n) h K
abbrev _root_.bG(p:Option Addr)(n:Nat)(h:Hp)(K:Option Addr->Prop):Prop:=bX p λa=>fS (a.add n) h K
abbrev _root_.bH(p:Option Addr)(n:Nat)(h:Hp)(K:Bool->Prop):Prop:=bX p λa=>l5 (a.add n) h K
abbrev _root_.bI(p:Option Addr)(n:Nat)(h:Hp)(K:Value->Prop):Prop:=bX p λa=>yG (a.add n) h K
abbrev _root_.bJ(p:Option Addr)(n:Nat)(h:Hp)(K:Option Nat->Prop):Prop:=bX p λa=>lr (a.add n) h K
abbrev _root_.bK(p:Option Addr)(n:Nat)(h:Hp)(K:ByteArray->Prop):Prop:=bX p λa=>AN (a.add n) h K
abbrev _root_.aS(S:Hp->Prop)(a:Addr)(n:Nat)(K:Int->Prop):Prop:=gE S bO (a.add n) K
abbrev _root_.aT(S:Hp->Prop)(a:Addr)(n:Nat)(K:Sl->Prop):Prop:=gE S .s (a.add n) K
abbrev _root_.aU(S:Hp->Prop)(a:Addr)(n:Nat)(K:Option Addr->Prop):Prop:=gE S .p (a.add n) K
abbrev _root_.bM(e:Int)(K:Int->Prop):Prop:=Ar .i64 e K
abbrev _root_.bN(a:Addr)(h:Hp)(K:Int->Prop):Prop:=gJ .i64 a h K
abbrev _root_.aV(c:Array Value)(t:Nat)(h:Hp)(K:Addr->Hp->Prop):Prop:=Nw (.cells c t (0,0)) h K
def Yh.v (a:R2)(b:Hp)(c:aO):Prop:=bV (λd e=>c d e) λf=>If (!a.isNone) (bE a 0 b λh=>f (decide (h>0)) b) (f false b)
theorem Yh.o {a b c}(d:Yh.v a b c):Yh.c a b c:=Wa Tryz.func202 (x:=Yh.h) (R0 d)
def Kl.h:Hn:=.q .o2 (.q (.q (.cW (.seq [.op,.op,.op,.cR false 2 [.op,.op]])) .aJ) (.q .o4 (.q (.q .o1 (.k (.loop [(5,.I)] (.q (.q .o3 (.c .l .l)) (.q (.k (.o 11)) .o3))))) (.q .o3 .l))))
def Kl.v (a:Int)(b:Hp)(c:Option Addr->Int->Hp->Prop):Prop:=bV (λd e=>If d (c none 1 e) (Nw (.cells #[.I a,.slice none 0 0] 286 (0,0)) e λf g=>Ya [bO] (λh=>h 1 g) λi (j:Int) k=>If (j<=a) (bX (some f) λl=>ju (l.add 1) k λm=>Nw (.map #[] 0) k λn o=>Nw (.cells #[.map (some n.block)] 73 (0,0)) o λp q=>App m 1 8 73 [.map none] ⟨some p,1,1⟩ q λr s=>bX (some f) λt=>dU (t.add 1) (.slice r.a r.len r.cap) s λu=>Ar .i64 (j*2) λv=>i v u) (c (some f) 0 k))) λw=>If (a<1) (w true b) (w (decide (a>1024)) b)
theorem Kl.o {a b c}(d:Kl.v a b c):Kl.c a b c:=Wa Tryz.func210 (x:=Kl.h) (R0 d)
def Yg.h:Hn:=.q .o1 (.q (.q .o5 (.q .o2 .aJ)) (.q (.q .o2 (.k (.loop [(8,.I)] (.q (.q .o5 (.c .l .l)) (.q (.k (.q .o3 .aK)) .o3))))) (.q .o4 .aM)))
def Yg.v (a:R2)(b c:Int)(d:Hp)(e:aN):Prop:=YW.c a b c d λf g=>If (f != 0) (e f g) (Ya [bO] (λh=>h b g) λi (j:Int) k=>bM (b+c) λl=>If (j<l) (Yy.c a j k λm n=>If m (e 9 n) (bM (j+1) λo=>i o n)) (Yq.c a b c k λp=>e 0 p))
theorem Yg.o {a b c d e}(f:Yg.v a b c d e):Yg.c a b c d e:=Wa Tryz.func246 (x:=Yg.h) (R0 f)
def YW.h:Hn:=.q .o1 (.q (.k (.q .o4 (.c .aM (.q (.cW (.seq [.op,.op,.op,.cR false 2 [.op,.op],.op,.cR false 6 (RI.ops 6),.op,.cR false 8 (RI.ops 8),.op])) .aK)))) .aM)
def YW.v (a:R2)(b c:Int)(d:Hp)(e:aN):Prop:=Yh.c a d λf g=>If (!f) (e 5 g) (bV (λh i=>bV (λj k=>bV (λl m=>If l (e 1 m) (e 0 m)) λn=>If j (n true k) (bE a 0 k λp=>bM (p-b) λq=>n (decide (c>q)) k)) λr=>If h (r true i) (bE a 0 i λt=>r (decide (b>t)) i)) λu=>If (b<0) (u true g) (u (decide (c<1)) g))
theorem YW.o {a b c d e}(f:YW.v a b c d e):YW.c a b c d e:=Wa Tryz.func262 (x:=YW.h) (R0 f)
def Yy.h:Hn:=.q .o1 (.q (.q (.cW (.seq [.op,.op,.op,.op,.cR false 2 [.op,.op],.op,.cR false 6 (RI.ops 6)])) .aK) (.q .fZ .aL))
def Yy.v (a:R2)(b:Int)(c:Hp)(d:aO):Prop:=Yh.c a c λe f=>bV (λg h=>bV (λi j=>If i (d false j) (XJ.c a b j λk l m n=>d m n)) λo=>If g (o true h) (bE a 0 h λq=>o (decide (b≥q)) h)) λr=>If (!e) (r true f) (r (decide (b<0)) f)
theorem Yy.o {a b c d}(e:Yy.v a b c d):Yy.c a b c d:=Wa Tryz.func263 (x:=Yy.h) (R0 e)
def ZB.h:Hn:=.q .o2 (.k (.loop [(6,.I)] (.q (.q .o5 (.c .l .l)) (.k (.q .fZ (.q .o9 (.q .o5 (.q .o6 (.q (.q .o4 (.q .o3 (.c .o6 .l))) .o2)))))))))
def ZB.v (a:R2)(b c:Int)(d:Hp)(e:aP):Prop:=Ya [bO] (λf=>f b d) λg (h:Int) i=>bM (b+c) λj=>If (h<j) (XJ.c a h i λk l m n=>bF a 1 n λp=>Ix p.a p.len k 1 λq=>lr q n λr=>lG .i64 .b r l n λs=>Nn k<|bM ((1:Int)*2^(min k.toNat IntKind.i64.bits)) λt=>bM (l+t) λu=>bM (h-l) λv=>Yq.c a l v s λw=>bM (b+c) λx=>If (u>x) (bM (u-x) λy=>Yq.c a x y w λz=>g u z) (g u w)) (e i)
theorem ZB.o {a b c d e}(f:ZB.v a b c d e):ZB.c a b c d e:=Wa Tryz.func264 (x:=ZB.h) (R0 f)
def XY.h:Hn:=.q .o2 (.q (.k (.q .o4 (.c .aL (.q (.cW (.seq [.op,.op,.op,.cR false 2 [.op,.op],.op,.cR false 2 [.op,.op],.op,.cR false 2 [.op,.op],.op,.cR false 5 (RI.ops 5),.op])) .aJ)))) (.q (.q .o6 (.k (.loop [(42,.I)] (.q .o1 (.q (.c .l .l) (.q (.k (.q .o5 (.q (.cW (.seq [.op,.op,.op,.op,.op,.op,.op,.cR true 3 (RI.ops 3)])) (.c (.q .o5 (.q .o4 (.q .o3 .l))) .l)))) .o2)))))) .aL))
def XY.v (a:R2)(b c:Int)(d:Hp)(e:Int->Int->Hp->Prop):Prop:=Yh.c a d λf g=>If (!f) (e 0 5 g) (bV (λh i=>bV (λj k=>bV (λl m=>bV (λn o=>If n (e 0 1 o) (bF a 1 o λq=>Ya [bO] (λr=>r 0 o) λs (t:Int) u=>If (t<((q.len:Nat):Int)) (Ix q.a q.len t 1 λv=>lr v u λw=>Nn t<|bM ((1:Int)*2^(min t.toNat IntKind.i64.bits)) λx=>bV (λy z=>If y (QA.c w z λaa ab=>VI.c aa ab λac ad=>W8.c ac ad λae af=>ZB.c a ae b af λag=>e ae 0 ag) (bM (t+1) λah=>s ah z)) λai=>If (x≥(if c>b then c else b)) (ru .i64 .b w u λaj=>ai (decide (aj>0)) u) (ai false u)) (e 0 6 u))) λak=>If l (ak true m) (bM (c-1) λal=>ak ((bits .and .i64 c al) != 0) m)) λam=>If j (am true k) (am (decide (c>1024)) k)) λan=>If h (an true i) (an (decide (c<1)) i)) λao=>If (b<1) (ao true g) (ao (decide (b>1024)) g))
theorem XY.o {a b c d e}(f:XY.v a b c d e):XY.c a b c d e:=Wa Tryz.func286 (x:=XY.h) (R0 f)
def Yq.h:Hn:=.k (.loop [(1,.I),(2,.I)] (.q (.q .o2 (.c .l .l)) (.k (.q .o1 (.q (.k (.loop [(6,.I)] (.q (.q (.cW (.seq [.op,.op,.op,.op,.op,.op,.op,.op,.op,.op,.cR true 5 (RI.ops 5)])) (.c .l .l)) (.k .o3)))) (.q .o4 (.oq 10)))))))
def Yq.v (a:R2)(b c:Int)(d:Hp)(e:aP):Prop:=Ya [bO,bO] (λf=>f b c d) λg (h:Int) (i:Int) j=>If (i>0) (Ya [bO] (λk=>k 0 j) λl (m:Int) n=>bM (m+1) λo=>Nn o <| bM (m+1) λp=>Nn p<|bM ((h.fdiv (2^(min o.toNat IntKind.i64.bits)))*2^(min p.toNat IntKind.i64.bits)) λq=>bV (λr s=>If r (bM (m+1) λt=>l t s) (Zm.c a m h s λu=>Nn m<|bM ((1:Int)*2^(min m.toNat IntKind.i64.bits)) λv=>bM (h+v) λw=>Nn m<|bM ((1:Int)*2^(min m.toNat IntKind.i64.bits)) λx=>bM (i-x) λy=>g w y u)) λz=>If (q==h) (bM (m+1) λaa=>Nn aa<|bM ((1:Int)*2^(min aa.toNat IntKind.i64.bits)) λab=>z (decide (ab<=i)) n) (z false n)) (e j)
theorem Yq.o {a b c d e}(f:Yq.v a b c d e):Yq.c a b c d e:=Wa Tryz.func301 (x:=Yq.h) (R0 f)
def XJ.h:Hn:=.q .o3 (.q (.q .o6 (.k (.loop [(15,.I)] (.q .o1 (.q (.c .l .l) (.q (.k (.q .o5 (.q .o6 (.q .o3 (.c (.q .o5 .l) .l))))) .o2)))))) (.q .o3 .l))
def XJ.v (a:R2)(b:Int)(c:Hp)(d:Int->Int->Bool->Hp->Prop):Prop:=bF a 1 c λf=>Ya [bO] (λg=>g 0 c) λh (i:Int) j=>If (i<((f.len:Nat):Int)) (Ix f.a f.len i 1 λk=>lr k j λl=>Nn i <| Nn i<|bM ((b.fdiv (2^(min i.toNat IntKind.i64.bits)))*2^(min i.toNat IntKind.i64.bits)) λm=>Lk .i64 .b l m j λn=>If (n.getD false) (d i m true j) (bM (i+1) λo=>h o j)) (d 0 0 false j)
theorem XJ.o {a b c d}(e:XJ.v a b c d):XJ.c a b c d:=Wa Tryz.func308 (x:=XJ.h) (R0 e)
def Zm.h:Hn:=.q (.k (.loop [(1,.I),(2,.I)] (.q (.q (.cW (.quiet [.op,.op,.op,.op,.op,.op,.op,.op,.op,.cR true 12 (RI.ops 12)])) (.c .l .l)) (.k (.q (.cW (.tail 11 (RI.ops 11) [.op])) (.q .o8 .o3)))))) .o9
def Zm.v (a:R2)(b c:Int)(d:Hp)(e:aP):Prop:=Ya [bO,bO] (λf=>f b c d) λg (h:Int) (i:Int) j=>bM (h+1) λk=>bF a 1 j λm=>bV (λn o=>If n (bF a 1 o λq=>Ix q.a q.len h 1 λr=>lr r o λs=>Nn h<|bM ((1:Int)*2^(min h.toNat IntKind.i64.bits)) λt=>lG .i64 .b s (bits .xor .i64 i t) o λu=>bM (h+1) λv=>Nn v <| bM (h+1) λw=>Nn w<|bM ((i.fdiv (2^(min v.toNat IntKind.i64.bits)))*2^(min w.toNat IntKind.i64.bits)) λx=>bM (h+1) λy=>g y x u) (bF a 1 o λaa=>Ix aa.a aa.len h 1 λab=>lr ab o λac=>kH .i64 .b ac i true o λad=>e ad)) λae=>If (k<((m.len:Nat):Int)) (bF a 1 j λag=>Ix ag.a ag.len h 1 λah=>lr ah j λai=>Nn h<|bM ((1:Int)*2^(min h.toNat IntKind.i64.bits)) λaj=>Lk .i64 .b ai (bits .xor .i64 i aj) j λak=>ae (ak.getD false) j) (ae false j)
theorem Zm.o {a b c d e}(f:Zm.v a b c d e):Zm.c a b c d e:=Wa Tryz.func325 (x:=Zm.h) (R0 f)
end Go.Proofs
namespace Go.Vc
open Go
variable {ro:Option Nat}{m0:Nat}
def Fw (ro:Option Nat):Fence:={Fence.wide with round:=ro}
theorem FJ {P:Program}{f:Nat}{args:Array Value}{w:World}{R:Ending->World->Prop}(h:Calls P f args w R):CallsIn (Fw ro) m0 P f args w R:=by
 cases ro with
 | none=>exact callsIn_wide.2 h
 | some l=>exact CallsIn.inRound l (callsIn_wide.2 h)
theorem PC {P:Program}{ρ:Operand->Value}{o:Oper}{w:World}{K:Value->Hp->Prop}(h:Ke P (execOp ρ o) w K):∀c,o.op≠.defer c:=by
 intro c hc;have key:∀(s:Sem Deferred) r,((do pure (Next.defer (←s)):Sem Next).run P w=.ok r w->∃d,r=.defer d)/\(∀w',(do pure (Next.defer (←s)):Sem Next).run P w=.ok r w'->∃d,r=.defer d):=by
  intro s r;have:∀w',(do pure (Next.defer (←s)):Sem Next).run P w=.ok r w'->∃d,r=.defer d:=by
   intro w' hr;rw[Sem.run_bind]at hr;cases hs:s.run P w with
   | ok d w2=>
    rw[hs]at hr;simp at hr;exact⟨d,hr.1.symm⟩
   | halt x w2=>
    rw[hs]at hr;simp at hr
  exact⟨this w,this⟩
 have a:execOp ρ o=(do pure (Next.defer (←resolve ρ c o.type)):Sem Next):=by unfold execOp;rw[hc]
 rw[a]at h;rcases h with⟨v,w',hr,_⟩|⟨w',hr,_⟩|⟨f,args,rs,R,hr,_⟩
 ·obtain⟨d,hd⟩:=(key _ _).2 w' hr;cases hd
 ·obtain⟨d,hd⟩:=(key _ _).2 w' hr;cases hd
 ·obtain⟨d,hd⟩:=(key _ _).2 w hr;cases hd
theorem Ke.uponIn {P:Program}{o:Oper}{a:Act}{w:World}{K:Value->Hp->Prop}{next:Act->World->Prop}{Q:Exit->Act->World->Prop}
 (h:Ke P (execOp a.eval o) w K) (hn:∀v w',Xt w w'->K v w'.heap->next (a.put o.dst v) w'):o.wpIn (Fw ro) m0 P a w next Q:=by
 refine⟨λ_ _=>trivial,?_⟩;rw[Oper.semAt_eq _ _ _ (PC h)];rcases h with⟨v,w',hr,b,hK⟩|⟨w',hr,b,hK⟩|⟨f,args,rs,R,hr,hc,hK⟩
 ·rw[hr];exact hn _ _ b hK
 ·rw[hr];exact hn _ _ b hK
 ·rw[hr];refine⟨λh=>by simp[Fw,Fence.wide]at h,FJ ((hc w rfl).mono λe w' ⟨b,vs,d,g⟩=>?_)⟩;subst d;exact hn _ _ b (hK _ _ g)
theorem JD {P:Program}{N:Nat}{ops:Array Oper}{Q:Exit->Act->World->Prop}{tail:List Oper}{w:World}:∀{os:List Oper} {ρ:Env} {a:Act},UG N ops os ρ=true->Fits N ρ a →
 (∀a',Fits N (ρ.dW (os.filterMap (·.dst))) a'->wpListIn (Fw ro) m0 P ops Q tail a' w)->wpListIn (Fw ro) m0 P ops Q (os++tail) a w
 | [],ρ,a,_,hf,h=>h a (hf.weaken (xI _ _))
 | o::os,ρ,a,hs,hf,h=>by
  simp only[UG,zE]at hs;obtain⟨h1,h2,h3⟩:=hs;have m:=Vj hf h1;simp only[lp,wpListIn,m];refine⟨λ_ _=>trivial,?_⟩;refine JD h3 (hf.put h2 _) λa' j=>h a' (j.weaken λi v b=>?_);simp only[Env.dW]at b ⊢;cases hc:(List.filterMap (·.dst) (o::os)).contains i
  ·rw[hc]at b;simp only[cond_false]at b;have g:(List.filterMap (·.dst) os).contains i=false:=by
    cases hd:o.dst<;>simp_all
   have e:∀d,o.dst=some d->i≠d:=by
    intro d hd;simp_all
   rw[g];simp only[cond_false];cases hd:o.dst with
   | none=>exact b
   | some d=>
    have:=e d hd;simp only[Env.ig,Env.put];have:Nat.beq i d=false:=by
     cases hb:Nat.beq i d
     ·rfl
     ·exact absurd (jZ hb) this
    rw[this];exact b
  ·rw[hc]at b;cases b
theorem Vi {P:Program}{N:Nat}{ops:Array Oper}{Q:Exit->Act->World->Prop}:∀(n:Nat) {hs:List RI} {os:List Oper} {tail:List Oper} {ρ:Env} {a:Act} {w:World} {K:Env->Hp->Prop},
 eD P N ops n hs os ρ w.heap K->Fits N ρ a->(∀ρ' a' w',Fits N ρ' a'->Xt w w'->V2 os ρ ρ'->K ρ' w'.heap->wpListIn (Fw ro) m0 P ops Q tail a' w')->wpListIn (Fw ro) m0 P ops Q (os++tail) a w
 | 0,_,_,_,_,_,_,_,h,_,_=>(by simp only[eD]at h)
 | n+1,[],[],tail,ρ,a,w,K,h,hf,hK=>by
  simp only[eD]at h;exact hK ρ a w hf (.refl _) (λ_ _ _ h=>h) h
 | n+1,[],o::os,tail,ρ,a,w,K,h,hf,hK=>(by simp only[eD]at h)
 | n+1,.op::hs,[],tail,ρ,a,w,K,h,hf,hK=>(by simp only[eD]at h)
 | n+1,.op::hs,o::os,tail,ρ,a,w,K,h,hf,hK=>by
  simp only[eD]at h;rw[WK]at h;obtain⟨hc,h⟩:=h;simp only[zE]at hc;have R:=Zw hf hc.1;simp only[lp,wpListIn,R,zR];refine Ke.uponIn (U1 hf.ev o h) λv w' D u=>?_;exact Vi n u (hf.put hc.2 v) λρ' a' A g j E s=>hK ρ' a' A g (D.trans j) E.cons s
 | n+1,.it ki c::hs,[],tail,ρ,a,w,K,h,hf,hK=>(by simp only[eD]at h)
 | n+1,.it ki c::hs,o::os,tail,ρ,a,w,K,h,hf,hK=>by
  simp only[eD]at h;rw[WK]at h;obtain⟨hc,h⟩:=h;simp only[zE]at hc;have R:=Zw hf hc.1;simp only[lp,wpListIn,R,zR];refine Ke.uponIn (EN hf.ev o h) λv w' D u=>?_;exact Vi n u (hf.put hc.2 v) λρ' a' A g j E s=>hK ρ' a' A g (D.trans j) E.cons s
 | n+1,.cR and m inner::hs,os,tail,ρ,a,w,K,h,hf,hK=>by
  simp only[eD]at h;split at h
  case h_2=>exact h.elim
  rename_i pk rest hdrop;split at h
  case h_2=>exact h.elim
  rename_i c x y d hop hd;split at h
  case h_2=>exact h.elim
  rename_i b hb;rw[WK]at h;obtain⟨hc,J,hJ,h⟩:=h;simp only[zE]at hc;obtain⟨U,H,ac,Z,C⟩:=hc;have ad:qL N pk.dst=true:=by rw[hd];exact U
  have Y:os++tail=os.take m++(pk::rest++tail):=by
   rw[←hdrop,←zr,oa]
  rw[Y];have p:∀(r b':Bool) (z:Operand) a' w',b=b'->(bif b' then x else y)=z->Fits N (ρ.dW ((os.take m).filterMap (·.dst))) a'->Xt w w'->J r w'.heap->Region.wanted pk (yielded ops a'.tmps)=true →
   a'.eval (.tmp c)=.bool b'->a'.eval z=.bool r->wpListIn (Fw ro) m0 P ops Q (pk::rest++tail) a' w':=by
   intro r b' z a' w' e ez g D L R F hez;simp only[lp,wpListIn,R,zR];refine Ke.uponIn (K:=λv W=>v=.bool r/\W=w'.heap) (Fo hop F (by rw[ez];exact hez) ⟨rfl,rfl⟩) λv A j u=>?_;obtain⟨rfl,hh⟩:=u;have X:=g.put (d:=some d) U (.bool r);rw[hd];have M:=hJ _ _ L;rw[←hh]at M;exact Vi n M X λρ' ab w3 G S E s=>hK ρ' ab w3 G ((D.trans j).trans S) (V2.cR hd hdrop E) s
  have run:∀(b':Bool) (z:Operand),b=b'->(bif b' then x else y)=z →
   eD P N ops n inner (os.take m) (ρ.put c (.bool b')) w.heap (λρ' W=>fQ (GU ops pk ρ'&&sf ρ' c b') (UF ρ' z λr=>J r W))->wpListIn (Fw ro) m0 P ops Q (os.take m++(pk::rest++tail)) a w:=by
   intro b' z e ez hseg;refine Vi n hseg (hf.lit hb e) λρ' a' w' g D E u=>?_;rw[WK]at u;simp only[zE]at u;obtain⟨⟨hg,aa⟩,u⟩:=u;obtain⟨r,hr,L⟩:=KQ u;exact p r b' z a' w' e ez (g.uZ hb e E) D L (Zw g hg) (g.ev _ _ (UZ aa)) (g.ev _ _ hr)
  have B:∀(b':Bool),b=b'->b' = !and->J (!and) w.heap->wpListIn (Fw ro) m0 P ops Q (os.take m++(pk::rest++tail)) a w:=by
   intro b' e eb L;subst eb;refine JD C (hf.lit hb e) λa' g=>?_;have V:Fits N (ρ.dW ((os.take m).filterMap (·.dst))) a':=g.uZ (ρ':=(ρ.put c (.bool (!and))).dW ((os.take m).filterMap (·.dst))) hb e (λi hi v hv=>by simp only[Env.dW,hi];exact hv);have F:=g.ev (.tmp c) _ (UZ Z);refine p (!and) (!and) (bif (!and)then x else y) a' w e rfl V (.refl _) L (Zw V ac) F ?_;refine BI ?_ _ (λv=>rfl);cases and<;>exact H
  cases and
  ·simp only[cond_false]at h;cases b
   ·exact run false y rfl rfl (h.f rfl)
   ·exact B true rfl rfl (h.t rfl)
  ·simp only[cond_true]at h;cases b
   ·exact B false rfl rfl (h.f rfl)
   ·exact run true x rfl rfl (h.t rfl)
end Go.Vc
namespace Go.Vc
open Go
variable {ro:Option Nat}{m0:Nat}{P:Program}
def Act.wd (a:Act)(ds:List Deferred):Act:={a with defers:=ds}
theorem s8 (a:Act)(ds:List Deferred)(d:Option Nat)(v:Value):(Act.wd a ds).put d v=Act.wd (a.put d v) ds:=by cases d<;>rfl
theorem CI (a:Act)(d e:List Deferred):Act.wd (Act.wd a d) e=Act.wd a e:=rfl
theorem Ug {a:Act}{ds:List Deferred}(h:a.defers=ds):Act.wd a ds=a:=by subst h;rfl
def jG (P:Program)(o:Oper):Bool:=match o.op with
 | .call c=>match c.callee with
  | .value (.func f)=>V9 P f
  | _=>false
 | .move _ | .assign _ | .alloc _ | .box _ _ | .build _ _ | .buildSlice _ _ _ | .load _ _ | .store _ _ _ | .binOp _ _ _ _ _ | .unOp _ _ _ | .fieldAddr _ _ _ | .indexAddr _ _ _ | .lookup _ _ _ _ | .mapUpdate _ _ _ _ | .extract _ _ | .nilCheck _ | .pick _ _ _=>true
 | _=>false
theorem Sa {s:Sem Value}{w w':World}{r:Next}(h:(do pure (Next.value (←s)):Sem Next).run P w=.ok r w'):∃v,r=.value v:=by
 rw[Sem.run_bind]at h;cases hs:s.run P w with
 | ok d w2=>rw[hs]at h;simp at h;exact⟨d,h.1.symm⟩
 | halt x w2=>rw[hs]at h;simp at h
theorem Pv {s:Sem Unit}{w w':World}{r:Next}(h:(do s;pure Next.skip:Sem Next).run P w=.ok r w'):r=.skip:=by
 rw[Sem.run_bind]at h;cases hs:s.run P w with
 | ok d w2=>rw[hs]at h;simp at h;exact h.1.symm
 | halt x w2=>rw[hs]at h;simp at h
def Si (r:Next):Prop:=(∃v,r=.value v)\/r=.skip\/∃f args,r=.enter f args
theorem Cm {α:Type}{s:Sem α}{f:α->Sem Next}{w w':World}{r:Next}(h:(s >>= f).run P w=.ok r w'):∃x w2,(f x).run P w2=.ok r w':=by
 rw[Sem.run_bind]at h;cases hs:s.run P w with
 | ok d w2=>rw[hs]at h;exact⟨d,w2,h⟩
 | halt x w2=>rw[hs]at h;simp at h
theorem G9 {x r:Next}{w w':World}(h:(pure x:Sem Next).run P w=.ok r w'):r=x:=by rw[Sem.run_pure]at h;cases h;rfl
theorem yj {r:Next}{w w':World}(h:(runtimePanic .nilDeref:Sem Next).run P w=.ok r w'):False:=by simp[runtimePanic,goPanic,Sem.run,go_sem]at h
theorem Rv {a:Act}{o:Oper}{w w':World}{r:Next}(hk:jG P o=true)(h:(execOp a.eval o).run P w=.ok r w'):Si r:=by
 unfold jG at hk;unfold execOp at h;cases ho:o.op<;>rw[ho]at hk h<;>simp only at hk h<;>first
  | exact .inl (Sa h)
  | exact .inr (.inl (Pv h))
  | cases hk
  | skip
 case move x=>rw[Sem.run_pure]at h;cases h;exact .inl ⟨_,rfl⟩
 case assign x=>rw[Sem.run_pure]at h;cases h;exact .inl ⟨_,rfl⟩
 case pick c x y=>
  rw[Sem.run_bind]at h;cases hs:(asBool (a.eval c)).run P w with
  | ok d e=>rw[hs]at h;simp at h;exact .inl ⟨_,h.1.symm⟩
  | halt x e=>rw[hs]at h;simp at h
 case call c=>
  obtain⟨callee,args,b⟩:=c;simp only at hk h;split at hk
  ·rename_i f;have i:=VL hk (args.map a.eval) w;have g:(do let d ←resolve a.eval {callee:=.value (.func f),args:=args,argTypes:=b} o.type;invoke d.target d.args:Sem Next).run P w=(callFunc f (args.map a.eval)).run P w:=by
    simp[resolve,Act.eval,Deferred.ofValue,invoke]
   rw[g,i]at h;cases h;exact .inr (.inr ⟨_,_,rfl⟩)
  ·cases hk
 case nilCheck x=>
  split at h
  ·exact(yj h).elim
  ·exact(yj h).elim
  ·exact(yj h).elim
  ·split at h
   ·exact(yj h).elim
   ·obtain⟨y,e,h⟩:=Cm h;obtain⟨z,m,h⟩:=Cm h;split at h
    ·obtain⟨y,j,h⟩:=Cm h;exact .inl ⟨_,G9 h⟩
    ·exact .inl ⟨_,G9 h⟩
   ·exact .inl ⟨_,G9 h⟩
  ·exact .inl ⟨_,G9 h⟩
theorem Ej {o:Oper}{a:Act}{w:World}{ds:List Deferred}{next next':Act->World->Prop}{Q Q':Exit->Act->World->Prop}(hk:jG P o=true)(h:o.wp P (Act.wd a []) w next Q')
 (hn:∀a' w',next a' w'->a'.defers=[]->next' (Act.wd a' ds) w') (hp:∀c a w,¬Q' (.panic c) a w) (ho:∀a w,¬Q' .outgrown a w):o.wpIn (Fw ro) m0 P (Act.wd a ds) w next' Q:=by
 have i:∀c,o.op≠.defer c:=λc j=>by unfold jG at hk;rw[j]at hk;cases hk
 refine⟨λ_ _=>trivial,?_⟩;rw[Oper.semAt_eq _ _ _ i];unfold Oper.wp at h;have m:(execOp (Act.wd a []).eval o)=execOp (Act.wd a ds).eval o:=rfl;rw[m]at h;have hd:∀v,((Act.wd a []).put o.dst v).defers=[]:=λv=>by rw[s8];rfl
 have d:∀v,Act.wd ((Act.wd a []).put o.dst v) ds=(Act.wd a ds).put o.dst v:=λv=>by rw[s8,s8,CI]
 cases hr:(execOp (Act.wd a ds).eval o).run P w with
 | ok r w'=>
  rw[hr]at h;rcases Rv hk hr with⟨v,rfl⟩|rfl|⟨f,args,rfl⟩
  ·rw[Oper.uponIn_value,←d];exact hn _ _ h (hd v)
  ·rw[Oper.uponIn_skip,←d];exact hn _ _ h (hd _)
  ·refine⟨λh=>by simp[Fw,Fence.wide]at h,FJ (Calls.mono h λe g b=>?_)⟩;cases e with
   | returned v=>
    show next' ((Act.wd a ds).put o.dst v) g;rw[←d];exact hn _ _ b (hd v)
   | panicked chain=>exact(hp _ _ _ b).elim
   | outgrown=>obtain⟨p,w0,b⟩:=b;exact(ho _ _ b).elim
 | halt x w'=>
  rw[hr]at h;cases x<;>first
   | exact(hp _ _ _ h).elim
   | exact h.elim
theorem NG {ops:Array Oper}{i:Nat}{a:Act}{w:World}{ds:List Deferred}{next next':Act->World->Prop}{Q Q':Exit->Act->World->Prop}(hk:∀o∈ops,jG P o=true)(h:wpOp P ops Q' i next (Act.wd a []) w)
 (hn:∀a' w',next (Act.wd a' []) w'->next' (Act.wd a' ds) w') (hp:∀c a w,¬Q' (.panic c) a w) (ho:∀a w,¬Q' .outgrown a w):wpOpIn (Fw ro) m0 P ops Q i next' (Act.wd a ds) w:=by
 unfold wpOp at h;unfold wpOpIn;cases hi:ops[i]? with
 | none=>rw[hi]at h;exact hn _ _ h
 | some o=>
  rw[hi]at h;simp only at h ⊢;have d:yielded ops (Act.wd a []).tmps=yielded ops (Act.wd a ds).tmps:=rfl;rw[d]at h;split
  ·rename_i hw;rw[zC hw]at h;rcases h with h|⟨_,a0,w0,hq⟩
   ·exact Ej (hk o (yH hi)) h (λa' w' b hd=>hn a' w' (by rw[Ug hd];exact b)) hp ho
   ·exact(ho _ _ hq).elim
  ·rename_i hw;rw[zB hw,s8]at h;refine⟨λ_ _=>trivial,?_⟩;rw[s8];exact hn _ _ h
theorem AI {ops:Array Oper}{ds:List Deferred}{Q Q':Exit->Act->World->Prop}(hk:∀o∈ops,jG P o=true)(hp:∀c a w,¬Q' (.panic c) a w)(ho:∀a w,¬Q' .outgrown a w)(hN:∀a w,Q' .normal (Act.wd a []) w->Q .normal (Act.wd a ds) w) :
 ∀(m:Nat) (listed:Array Bool) (a:Act) (w:World),wpAny P .any ops Q' m listed (Act.wd a []) w->wpAnyIn (Fw ro) m0 P .any ops Q m listed (Act.wd a ds) w
 | 0,listed,a,w,h=>⟨h.1,hN _ _ h.2⟩
 | m+1,listed,a,w,h=>⟨λe=>hN _ _ (h.1 e),λi hi=>NG hk (h.2 i hi) (λa' w' h'=>AI hk hp ho hN m _ a' w' h') hp ho⟩
theorem BY {ops:Array Oper}{ds:List Deferred}{Q Q':Exit->Act->World->Prop}(hp:∀c a w,¬Q' (.panic c) a w)(ho:∀a w,¬Q' .outgrown a w)(hN:∀a w,Q' .normal (Act.wd a []) w->Q .normal (Act.wd a ds) w) :
 ∀(l:List Oper) (a:Act) (w:World),(∀o∈l,jG P o=true)->wpList P ops Q' l (Act.wd a []) w->wpListIn (Fw ro) m0 P ops Q l (Act.wd a ds) w
 | [],a,w,_,h=>hN _ _ h
 | o::l,a,w,hk,h=>by
  have hl:=λe b=>hk e (mS _ b);unfold wpList at h;unfold wpListIn;have j:yielded ops (Act.wd a []).tmps=yielded ops (Act.wd a ds).tmps:=rfl;rw[j]at h;split
  ·rename_i hw;rw[zC hw]at h;rcases h with h|⟨_,a0,w0,hq⟩
   ·exact Ej (hk o ni) h (λd g i hd=>BY hp ho hN l d g hl (by rw[Ug hd];exact i)) hp ho
   ·exact(ho _ _ hq).elim
  ·rename_i hw;rw[zB hw,s8]at h;refine⟨λ_ _=>trivial,?_⟩;rw[s8];exact BY hp ho hN l _ w hl h
structure lN (ds:List Deferred) (N:Nat) (ρ:Env) (a:Act):Prop where
 f:Fits N ρ (Act.wd a [])
 d:a.defers=ds
theorem lN.ev {ds:List Deferred}{N:Nat}{ρ:Env}{a:Act}(h:lN ds N ρ a):∀x v,ev ρ x=some v->a.eval x=v:=λx v b=>h.f.ev x v b
def qh (Q:Act->World->Prop):Exit->Act->World->Prop
 | .normal,a,w=>Q a w
 | _,_,_=>False
def pj (P:Program)(dz:Bool)(ops:Array Oper)(draw:Bool):RH->Bool
 | .seq _=>!draw&&(dz||ops.all (jG P))
 | .held _ _ _=>draw&&ops.all (jG P)
 | .gH _ _ _ _=>draw&&ops.all (jG P)
 | _=>false
theorem AT {ops:Array Oper}(h:ops.all (jG P)=true):∀o∈ops,jG P o=true:=λo a=>by rw[Array.all_eq_true']at h;exact h o a
theorem Dx {N id:Nat}{ops:Array Oper}{sm:Bool}{C:List Nat}{sh:SH}{K:Env->Hp->Prop}{ρ:Env}{a:Act}{w:World}{Q:Act->World->Prop}
 (hsel:Region.noSelect ops=true) (h:xZ P N sm C sh ops ρ w.heap K)
 (hf:Fits N ρ a) (hK:∀ρ' a' w',Fits N ρ' a'->Xt w w'->V2 ops.toList ρ ρ'->K ρ' w'.heap->Q a' w'):wpAny P .any ops (qh Q) ops.size (Array.replicate ops.size false) a {w with drawn:=w.drawn+1}:=by
 have hd:Xt w {w with drawn:=w.drawn+1}:=⟨rfl,rfl,rfl,zD _⟩;have e:qh Q=λe a w=>match e with | .normal=>Q a w|_=>False:=by funext e a w;cases e<;>rfl
 rw[e];cases sm
 ·exact Uo _ _ _ _ (Qd (S:=λ_=>True) (w:={w with drawn:=w.drawn+1}) (Qn:=Q) hsel (λ_ _=>trivial) 400 ops.size h hf (iq.start ops) (.inl trivial) λρ' a' w' b g i d=>hK ρ' a' w' b (hd.trans g) i d)
 ·obtain⟨S,j,h⟩:=h;exact Uo _ _ _ _ (Qd (S:=S) (w:={w with drawn:=w.drawn+1}) (Qn:=Q) hsel (λe=>by cases e) 400 ops.size h hf (iq.start ops) (.inl j) λρ' a' w' b g i d=>hK ρ' a' w' b (hd.trans g) i d)
theorem LU {N id:Nat}{r:RH}{ops:Array Oper}{draw:Bool}{ρ:Env}{a:Act}{w:World}{K:Env->Hp->Prop}{Q:Exit->Act->World->Prop}{ds:List Deferred}
 (h:mK P N r ops draw ρ w.heap K) (ho:pj P ds.isEmpty ops draw r=true) (hf:lN ds N ρ a) (hK:∀ρ' a' w',lN ds N ρ' a'->Xt w w'->K ρ' w'.heap->Q .normal a' w'):(Code.region id ops draw).wpIn (Fw ro) m0 P Q a w:=by
 have F:Act.wd (Act.wd a []) ds=a:=by rw[CI];exact Ug hf.d
 have i:∀ρ' a' w',Fits N ρ' a'->Xt w w'->K ρ' w'.heap->Q .normal (Act.wd a' ds) w':=λρ' a' w' b e g=>hK ρ' _ w' ⟨by rw[CI,Ug b.defers];exact b,rfl⟩ e g;unfold mK at h;split at h
 ·rename_i A;simp only[pj,wS,rk,nr]at ho;refine wpIn_region_list ?_;rcases ho with ho|ho
  ·have x:ds=[]:=by cases ds<;>simp at ho;rfl
   subst x;have y:Act.wd a []=a:=F;rw[←y];have:=Vi (ro:=ro) (m0:=m0) (Q:=Q) (tail:=[]) 400 h hf.f λρ' a' w' b e p g=>by
    have:=i ρ' a' w' b e g;rw[Ug b.defers]at this;exact this
   simpa using this
  ·have:=KU (Q:=qh λa' w'=>Q .normal (Act.wd a' ds) w') (tail:=[]) 400 h hf.f λρ' a' w' b e p g=>i ρ' a' w' b e g;have j:=BY (ro:=ro) (m0:=m0) (ds:=ds) (Q:=Q) (ops:=ops) (λ_ _ _ h=>h) (λ_ _ h=>h) (λa w h=>h) ops.toList a w (λo z=>AT ho o (by simpa using z)) (by simpa using this);rw[Ug hf.d]at j;exact j
 ·cases ho
 ·cases ho
 ·rename_i sm sh;rw[WK]at h;simp only[zE]at h;simp only[pj,rk]at ho;refine wpIn_region_any h.1.1 ?_;have u:=Dx (id:=id) (Q:=λa' w'=>Q .normal (Act.wd a' ds) w') h.1.2 h.2 hf.f λρ' a' w' b e p g=>i ρ' a' w' b e g;have j:=AI (ro:=ro) (m0:=m0) (ds:=ds) (Q:=Q) (AT ho) (λ_ _ _ h=>h) (λ_ _ h=>h) (λa w h=>h) _ _ _ _ u;rw[Ug hf.d]at j;exact j
 ·rename_i sm js sh;rw[WK]at h;simp only[zE]at h;simp only[pj,rk]at ho;obtain⟨⟨C,m,D⟩,J,E,h⟩:=h;refine wpIn_region_any C ?_;have u:=Dx (id:=id) (Q:=λa' w'=>Q .normal (Act.wd a' ds) w') m h hf.f λρ' a' w' b e p g=>by
   obtain⟨vs,B,A⟩:=Hg g;have s:=Uj (A.mono E);exact i _ a' w' (KB js (V7 b p) b B) e s
  have j:=AI (ro:=ro) (m0:=m0) (ds:=ds) (Q:=Q) (AT ho) (λ_ _ _ h=>h) (λ_ _ h=>h) (λa w h=>h) _ _ _ _ u;rw[Ug hf.d]at j;exact j
 ·exact h.elim
def oc (P:Program)(dz:Bool):Code->Hn->Bool
 | .skip,_=>true
 | .ret,_=>true
 | .exit _,_=>true
 | .region _ ops d,.cW r=>pj P dz ops d r
 | .seq a b,.seq x y=>oc P dz a x&&oc P dz b y
 | .cond _ a b,.cond x y=>oc P dz a x&&oc P dz b y
 | .block _ b,.block x=>oc P dz b x
 | _,_=>false
theorem Ku {N:Nat}{ds:List Deferred}:∀(c:Code) {x:Hn} {Q:Exit->Env->Hp->Prop} {Q':Exit->Act->World->Prop} {ρ:Env} {a:Act} {w:World},
 iF P N c x Q ρ w.heap->oc P ds.isEmpty c x=true->lN ds N ρ a->(∀e ρ' a' w',lN ds N ρ' a'->Xt w w'->Q e ρ' w'.heap->Q' e a' w')->c.wpIn (Fw ro) m0 P Q' a w
 | .skip,x,Q,Q',ρ,a,w,h,ho,hf,hq=>by
  have h':Q .normal ρ w.heap:=by cases x<;>exact h
  exact wpIn_skip (hq _ ρ a w hf (.refl _) h')
 | .ret,x,Q,Q',ρ,a,w,h,ho,hf,hq=>by
  have h':Q .ret ρ w.heap:=by cases x<;>exact h
  exact wpIn_ret (hq _ ρ a w hf (.refl _) h')
 | .exit id,x,Q,Q',ρ,a,w,h,ho,hf,hq=>by
  have h':Q (.exit id) ρ w.heap:=by cases x<;>exact h
  exact wpIn_exit (hq _ ρ a w hf (.refl _) h')
 | .region id ops d,x,Q,Q',ρ,a,w,h,ho,hf,hq=>by
  cases x<;>simp only[iF]at h
  exact LU h ho hf λρ' a' w' b j g=>hq _ ρ' a' w' b j g
 | .seq c1 c2,x,Q,Q',ρ,a,w,h,ho,hf,hq=>by
  cases x<;>simp only[iF]at h
  case seq x y=>
   simp only[oc,zE]at ho;refine wpIn_seq (Ku c1 h ho.1 hf λe ρ' a' w' b j g=>?_);cases e
   case normal=>exact Ku c2 g ho.2 b λe A r u m s z=>hq e A r u m (j.trans s) z
   all_goals exact hq _ ρ' a' w' b j g
  case kj=>cases ho
 | .cond c c1 c2,x,Q,Q',ρ,a,w,h,ho,hf,hq=>by
  cases x<;>simp only[iF]at h
  simp only[oc,zE]at ho;obtain⟨t,B,h⟩:=KQ h;refine wpIn_cond_split (hf.ev _ _ B) (λe=>?_) (λe=>?_)
  ·exact Ku c1 (h.t e) ho.1 hf hq
  ·exact Ku c2 (h.f e) ho.2 hf hq
 | .block id c1,x,Q,Q',ρ,a,w,h,ho,hf,hq=>by
  cases x<;>simp only[iF]at h
  refine wpIn_block (Ku c1 h ho hf λe ρ' a' w' b j g=>?_);cases e
  case exit i=>
   simp only[wq]at g;simp only[Exit.inBlock];split at g
   ·rename_i e;have p:i=id:=jZ e;rw[zC p];exact hq _ ρ' a' w' b j g
   ·rename_i e;have p:i≠id:=λh=>by subst h;simp at e
    rw[zB p];exact hq _ ρ' a' w' b j g
  all_goals exact hq _ ρ' a' w' b j g
 | .loop ..,x,Q,Q',ρ,a,w,h,ho,hf,hq=>(by cases x<;>cases ho)
 | .scope ..,x,Q,Q',ρ,a,w,h,ho,hf,hq=>(by cases x<;>cases ho)
 | .label ..,x,Q,Q',ρ,a,w,h,ho,hf,hq=>(by cases x<;>cases ho)
 | .rangeFunc ..,x,Q,Q',ρ,a,w,h,ho,hf,hq=>(by cases x<;>cases ho)
 | .goto ..,x,Q,Q',ρ,a,w,h,ho,hf,hq=>(by cases x<;>cases ho)
 | .refuse ..,x,Q,Q',ρ,a,w,h,ho,hf,hq=>(by cases x<;>cases ho)
def HN (P:Program)(l:Nat)(args:List Value)(h:Hp)(R:aO):Prop:=
 ∀w:World,w.heap=h->∃fn tmps asg bd,(Instr.yield l args.toArray).run P w=.ok (.round l fn tmps asg bd) w/\RoundIn Fence.wide 0 P l fn tmps asg bd w λe w'=>Xt w w'/\∃b,e=.returned (.bool b)/\R b w'.heap
def yK (P:Program)(o:Oper)(ρ:Env)(h:Hp)(K:Value->Hp->Prop):Prop:=match o.op with
 | .call c=>match c.callee with
  | .value (.tmp t)=>match ρ t,pY ρ c.args.toList with
   | some (.func (.yield l) first cap),some args=>fQ (first.isEmpty&&cap.isEmpty) (HN P l args h λb h'=>K (.bool b) h')
   | _,_=>False
  | _=>su P o.op o.type ρ h K
 | _=>su P o.op o.type ρ h K
theorem TG {ρ:Env}{o:Oper}{a:Act}{w:World}{K:Value->Hp->Prop}{next:Act->World->Prop}{Q:Exit->Act->World->Prop}(hf:∀x v,ev ρ x=some v->a.eval x=v)
 (h:yK P o ρ w.heap K) (hn:∀v w',Xt w w'->K v w'.heap->next (a.put o.dst v) w'):o.wpIn (Fw ro) m0 P a w next Q:=by
 have d:su P o.op o.type ρ w.heap K->o.wpIn (Fw ro) m0 P a w next Q:=λh=>Ke.uponIn (U1 hf o h) hn
 unfold yK at h;split at h
 ·rename_i c hc;split at h
  ·rename_i t ht;split at h
   ·rename_i l first cap args hρ hargs
    rw[WK]at h;obtain⟨g,h⟩:=h;simp only[zE,yS]at g;obtain⟨rfl,rfl⟩:=g;have s:∀c,o.op≠.defer c:=λM A=>by rw[hc]at A;cases A
    refine⟨λ_ _=>trivial,?_⟩;rw[Oper.semAt_eq _ _ _ s];obtain⟨G,i,r,D,B,C⟩:=h w rfl;have e1:=Z1 hf hargs;have m:c.args.map a.eval=args.toArray:=by apply Array.ext';simpa using e1
    have e2:a.eval (.tmp t)=.func (.yield l) #[] #[]:=hf (.tmp t) _ hρ;have j:(execOp a.eval o).run P w=.ok (.round l G i r D) w:=by
     obtain⟨dst,op,L,pos,u,z⟩:=o;simp only at hc;subst hc;obtain⟨p,y,J⟩:=c;simp only at ht m;subst ht;simpa[execOp,resolve,m,e2,Deferred.ofValue,invoke]using B
    rw[j];refine⟨λh=>by simp[Fw,Fence.wide]at h,?_⟩;refine RoundIn.mono (R:=λe w'=>Xt w w'/\∃b,e=.returned (.bool b)/\K (.bool b) w'.heap) ⟨trivial,λc H _=>C.2 c H (room_wide _)⟩ ?_;rintro e w' ⟨E,b,rfl,F⟩;exact hn _ _ E F
   ·exact h.elim
  ·exact d h
 ·exact d h
def ya (P:Program)(N:Nat):List Oper->Env->Hp->(Env->Hp->Prop)->Prop
 | [],ρ,h,K=>K ρ h
 | o::os,ρ,h,K=>fQ (qL N o.dst&&o.guard.isNone) (yK P o ρ h λv h'=>ya P N os (ρ.ig o.dst v) h' K)
theorem Ef {N:Nat}{ops:Array Oper}{Q:Exit->Act->World->Prop}:∀{os:List Oper} {ρ:Env} {a:Act} {w:World} {K:Env->Hp->Prop},
 ya P N os ρ w.heap K->Fits N ρ a->(∀ρ' a' w',Fits N ρ' a'->Xt w w'->V2 os ρ ρ'->K ρ' w'.heap->Q .normal a' w')->wpListIn (Fw ro) m0 P ops Q os a w
 | [],ρ,a,w,K,h,hf,hK=>hK ρ a w hf (.refl _) (λ_ _ _ h=>h) h
 | o::os,ρ,a,w,K,h,hf,hK=>by
  simp only[ya]at h;rw[WK]at h;obtain⟨hc,h⟩:=h;simp only[zE,Option.isNone_iff_eq_none]at hc;have i:Region.wanted o (yielded ops a.tmps)=true:=by simp[Region.wanted,hc.2]
  simp only[wpListIn,i,zR];refine TG hf.ev h λv w' j p=>?_;exact Ef p (hf.put hc.1 v) λρ' a' d e b m g=>hK ρ' a' d e (j.trans b) m.cons g
def gP (P:Program)(N:Nat):Code->Hn->(Exit->Env->Hp->Prop)->Env->Hp->Prop
 | .skip,_,Q,ρ,h=>Q .normal ρ h
 | .ret,_,Q,ρ,h=>Q .ret ρ h
 | .exit id,_,Q,ρ,h=>Q (.exit id) ρ h
 | .region _ ops d,.cW r,Q,ρ,h=>mK P N r ops d ρ h λρ' h'=>Q .normal ρ' h'
 | .region _ ops false,.leaf,Q,ρ,h=>ya P N ops.toList ρ h λρ' h'=>Q .normal ρ' h'
 | .seq a b,.seq x y,Q,ρ,h=>gP P N a x (vp (λρ' h'=>gP P N b y Q ρ' h') Q) ρ h
 | .cond c a b,.cond x y,Q,ρ,h=>UF ρ c λt=>If t (gP P N a x Q ρ h) (gP P N b y Q ρ h)
 | .block id b,.block x,Q,ρ,h=>gP P N b x (wq id Q) ρ h
 | .loop b,.loop js x,Q,ρ,h=>fQ (js.all λs=>my (fK b) s.1)
  (Ya (l9 js) (λI=>sD js ρ I h) λJ=>lam (l9 js) λvs h'=>gP P N b x (vp (λρ' h''=>sD js ρ' J h'') Q) (iy (ρ.dW (fK b)) js vs) h')
 | _,_,_,_,_=>False
theorem SZ {F:Fence}{c:Code}{Q:Exit->Act->World->Prop}{a:Act}{w:World}(I:Nat->Act->World->Prop)(h0:∃n,I n a w)
 (round:∀n a w,I n a w->c.wpIn F m0 P (Exit.then (λa' w'=>∃m,m<n/\I m a' w') Q) a w):(Code.loop c).wpIn F m0 P Q a w:=by
 refine wpIn_loop (λa w=>∃n,I n a w) (λa w=>uC λn=>I n a w) h0 λa w i=>?_;refine wpIn_mono (round _ a w (IU i)) λe a' w' d=>?_;cases e<;>try exact d
 obtain⟨m,g,b⟩:=d;exact⟨⟨m,b⟩,CO (D3 b) g⟩
theorem KT {N:Nat}:∀(c:Code) {x:Hn} {Q:Exit->Env->Hp->Prop} {Q':Exit->Act->World->Prop} {ρ:Env} {a:Act} {w:World},
 gP P N c x Q ρ w.heap->Fits N ρ a->(∀e ρ' a' w',Fits N ρ' a'->Xt w w'->Vo (fK c) ρ ρ'->Q e ρ' w'.heap->Q' e a' w')->c.wpIn (Fw none) m0 P Q' a w
 | .skip,x,Q,Q',ρ,a,w,h,hf,hq=>by
  have h':Q .normal ρ w.heap:=by cases x<;>exact h
  exact wpIn_skip (hq _ ρ a w hf (.refl _) (.refl _ _) h')
 | .ret,x,Q,Q',ρ,a,w,h,hf,hq=>by
  have h':Q .ret ρ w.heap:=by cases x<;>exact h
  exact wpIn_ret (hq _ ρ a w hf (.refl _) (.refl _ _) h')
 | .exit id,x,Q,Q',ρ,a,w,h,hf,hq=>by
  have h':Q (.exit id) ρ w.heap:=by cases x<;>exact h
  exact wpIn_exit (hq _ ρ a w hf (.refl _) (.refl _ _) h')
 | .region id ops d,x,Q,Q',ρ,a,w,h,hf,hq=>by
  cases x
  case cW r=>
   have h':mK P N r ops d ρ w.heap λρ' h'=>Q .normal ρ' h':=by cases d<;>simpa only[gP]using h
   exact wpIn_wide.2 (EL h' hf λρ' a' w' b j s g=>hq _ ρ' a' w' b j s g)
  case leaf=>
   cases d<;>simp only[gP]at h
   refine wpIn_region_list (Ef h hf λρ' a' w' b j s g=>hq _ ρ' a' w' b j s g)
  all_goals (cases d<;>simp only[gP]at h)
 | .seq c1 c2,x,Q,Q',ρ,a,w,h,hf,hq=>by
  cases x<;>simp only[gP]at h
  refine wpIn_seq (KT c1 h hf λe ρ' a' w' b j s g=>?_);cases e
  case normal=>exact KT c2 g b λe ρ'' B A p u H D=>hq e ρ'' B A p (j.trans u) (s.trans H) D
  all_goals exact hq _ ρ' a' w' b j (s.mono λi z=>kC _ z) g
 | .cond c c1 c2,x,Q,Q',ρ,a,w,h,hf,hq=>by
  cases x<;>simp only[gP]at h
  obtain⟨t,W,h⟩:=KQ h;refine wpIn_cond_split (hf.ev _ _ W) (λe=>?_) (λe=>?_)
  ·exact KT c1 (h.t e) hf λe ρ' a' w' b j s g=>hq e ρ' a' w' b j (s.mono λi z=>kC _ z) g
  ·exact KT c2 (h.f e) hf λe ρ' a' w' b j s g=>hq e ρ' a' w' b j (s.mono λi z=>nZ _ z) g
 | .block id c1,x,Q,Q',ρ,a,w,h,hf,hq=>by
  cases x<;>simp only[gP]at h
  refine wpIn_block (KT c1 h hf λe ρ' a' w' b j s g=>?_);cases e
  case exit i=>
   simp only[wq]at g;simp only[Exit.inBlock];split at g
   ·rename_i e;have G:i=id:=jZ e;rw[zC G];exact hq _ ρ' a' w' b j s g
   ·rename_i e;have G:i≠id:=λh=>by subst h;simp at e
    rw[zB G];exact hq _ ρ' a' w' b j s g
  all_goals exact hq _ ρ' a' w' b j s g
 | .loop c1,x,Q,Q',ρ,a,w,h,hf,hq=>by
  cases x<;>simp only[gP]at h
  rename_i js x;rw[WK]at h;obtain⟨J,I,μ,F,R⟩:=h;refine SZ (λn a' w'=>∃vs,Fits N (iy (ρ.dW (fK c1)) js vs) a'/\Xt w w'/\Sat (l9 js) (GI (l9 js) I μ (· = n)) vs w'.heap) ?_ ?_
  ·obtain⟨vs,U,F⟩:=Hg F;obtain⟨n,K⟩:=Hh μ F;exact⟨n,vs,KB js (hf.weaken (xI _ _)) hf U,.refl _,K⟩
  ·rintro n a' w' ⟨vs,b,j,K⟩;have:=Uj (K.mono (R n));have S:=(UV (fK c1) ρ).trans (KR (fK c1) js (ρ.dW (fK c1)) vs J);refine KT c1 this b λe ρ'' B A p u s g=>?_;have y:Vo (fK c1) ρ ρ'':=(S.trans s).mono λi z=>by
    simp only[zK]at z;rcases z with(h|h)|h<;>exact h
   cases e
   case normal=>
    obtain⟨M,E,L⟩:=Hg g;obtain⟨m,V,C⟩:=Gz L;exact⟨m,V,M,KB js (V7 p y) p E,j.trans u,C⟩
   all_goals exact hq _ ρ'' B A p (j.trans u) y g
 | .scope ..,x,Q,Q',ρ,a,w,h,hf,hq=>(by cases x<;>simp only[gP]at h)
 | .label ..,x,Q,Q',ρ,a,w,h,hf,hq=>(by cases x<;>simp only[gP]at h)
 | .rangeFunc ..,x,Q,Q',ρ,a,w,h,hf,hq=>(by cases x<;>simp only[gP]at h)
 | .goto ..,x,Q,Q',ρ,a,w,h,hf,hq=>(by cases x<;>simp only[gP]at h)
 | .refuse ..,x,Q,Q',ρ,a,w,h,hf,hq=>(by cases x<;>simp only[gP]at h)
def Dq (P:Program)(f:Nat)(args:Array Value)(h:Hp)(R:aP):Prop:=
 ∀w:World,w.heap=h->∀m,CallsIn Fence.wide m P f args w λe w'=>Xt w w'/\(∃v,e=.returned v)/\R w'.heap
def Eg (P:Program)(fn:Func)(x:Hn)(args:List Value)(R:aP)(h:Hp):Prop:=
 match fn.body with
 | some c=>fQ (Nat.ble args.length fn.ntmps&&fn.results.isEmpty) (gP P fn.ntmps c x (λe ρ h=>match e with | .normal=>R h | .ret=>R h|_=>False) (GK args) h)
 | none=>False
theorem T9 {f:Nat}{fn:Func}{x:Hn}{args:List Value}{R:aP}{h:Hp}(hfn:P.funcs[f]?=some fn)(hk:Eg P fn x args R h):Dq P f args.toArray h R:=by
 intro w hw m;subst hw;unfold Eg at hk;split at hk
 case h_2=>exact hk.elim
 rename_i c hb;rw[WK]at hk;obtain⟨d,hk⟩:=hk;simp only[zE,yS]at d;have y:args.length<=fn.ntmps:=ym d.1;refine callsIn_of_wp_marks hfn hb trivial ?_;have b:∀a w,(results fn a).run P w=.ok (.tuple #[]) w:=λa w=>by
  simp[results,d.2]
 refine KT c hk (ρ:=GK args) ⟨rfl,by simp;omega,λi v g=>?_⟩ λe B s z r u A j=>?_
 ·simp only[GK]at g;have p:i<args.length:=(cZ.1 g).1;rw[xg (by simpa using p)];simpa using g
 ·cases e
  case normal=>
   show LeavesInM _ _ _ _ _ _ s.defers _ _;rw[r.defers];exact⟨_,b _ _,u,⟨_,rfl⟩,j⟩
  case ret=>
   show LeavesInM _ _ _ _ _ _ s.defers _ _;rw[r.defers];exact⟨_,b _ _,u,⟨_,rfl⟩,j⟩
  all_goals exact j.elim
end Go.Vc
namespace Go.Vc
open Go
variable {m0:Nat}{P:Program}
def we (P:Program)(fv:Fv)(xs:List (List Value))(Kp:aP):Prop:=
 ∀(l:Nat) (J:Nat->Hp->Prop),(∀k h h',J k h->bL h h'->J k h')->(∀k h,J k h->Kp h) →
  (∀k x,xs[k]?=some x->∀h,J k h->HN P l x h λb h'=>b=true/\J (k+1) h') →
  ∀h,J 0 h->Dq P fv.f (#[.func (.yield l) #[] #[]]++fv.captured) h λh'=>J xs.length h'
def AP (P:Program){α:Type}(enc:α->List Value)(fv:Fv)(h:Hp)(round:α->(Hp->Prop)->Hp->Prop)(K:aP):Prop:=
 fv.first = #[]/\V9 P fv.f=true/\∃(xs:List α) (Kp:aP) (I:Nat->Hp->Prop),we P fv (xs.map enc) Kp/\(∀k s s',I k s->Ext (λb=>b=h.size\/b=h.size+1) s s'->I k s')/\(∀k s,I k s->Kp s)/\I 0 h ∧
  (∀k x,xs[k]?=some x->∀s,I k s->h.size+2<=s.size->round x (λs'=>I (k+1) s'/\s'[h.size]?=s[h.size]?/\s'[h.size+1]?=s[h.size+1]?) s) ∧
  (∀s,I xs.length s->s[h.size]?=some (.deferred (some []))->K s)
def om:List Nat->List Value->Env->Env
 | p::ps,v::vs,ρ=>om ps vs (ρ.put p v)
 | _,_,ρ=>ρ
theorem JF {N:Nat}:∀(ps:List Nat) (vs:List Value) {ρ:Env} {t:Array Value},(∀p∈ps,p<N)->Fits N ρ {tmps:=t,defers:=[]}->Fits N (om ps vs ρ) {tmps:=(ps.zip vs).foldl (λt (x:Nat×Value)=>t.setIfInBounds x.1 x.2) t,defers:=[]}
 | [],vs,ρ,t,_,hf=>by cases vs<;>exact hf
 | p::ps,[],ρ,t,_,hf=>hf
 | p::ps,v::vs,ρ,t,hp,hf=>by
  have h1:=hf.put (d:=some p) (show Nat.blt p N=true by rw[Nat.blt_eq];exact hp p ni) v;exact JF ps vs (λq a=>hp q (mS _ a)) h1
def qt (N:Nat):List Oper->Env->Option Env
 | [],ρ=>some ρ
 | o::os,ρ=>match o.op,o.dst,o.guard with
  | .assign x,some d,none=>match ev ρ x with
   | some v=>bif Nat.blt d N then qt N os (ρ.put d v)else none
   | none=>none
  | _,_,_=>none
def qA (N:Nat):Code->Env->Option Env
 | .region _ ops false,ρ=>qt N ops.toList ρ
 | .skip,ρ=>some ρ
 | _,_=>none
theorem Et {N:Nat}{F:Fence}{ops:Array Oper}{Q:Exit->Act->World->Prop}(hF:∀f,F.fn f):∀{os:List Oper} {ρ ρ':Env} {a:Act} {w:World},qt N os ρ=some ρ'->Fits N ρ a->(∀a',Fits N ρ' a'->Q .normal a' w)->wpListIn F m0 P ops Q os a w
 | [],ρ,ρ',a,w,h,hf,hq=>by cases h;exact hq a hf
 | o::os,ρ,ρ',a,w,h,hf,hq=>by
  unfold qt at h;split at h
  ·rename_i x d hop hd hg;split at h
   ·rename_i v hv;cases hb:Nat.blt d N with
    | false=>rw[hb]at h;cases h
    | true=>
     rw[hb]at h;have hw:Region.wanted o (yielded ops a.tmps)=true:=by simp[Region.wanted,hg]
     simp only[wpListIn,hw,zR];refine⟨λf _=>hF f,?_⟩;rw[Oper.semAt_eq _ _ _ (λc e=>by rw[hop]at e;cases e)];have g:(execOp a.eval o).run P w=.ok (.value v) w:=by
      unfold execOp;rw[hop];simp only;rw[Sem.run_pure,hf.ev x v hv]
     rw[g];have b:=hf.put (d:=some d) hb v;rw[Oper.uponIn_value,hd];exact Et hF h b hq
   ·cases h
  ·cases h
theorem OS {N:Nat}{F:Fence}{c:Code}{Q:Exit->Act->World->Prop}(hF:∀f,F.fn f){ρ ρ':Env}{a:Act}{w:World}(h:qA N c ρ=some ρ')(hf:Fits N ρ a)(hq:∀a',Fits N ρ' a'->Q .normal a' w):c.wpIn F m0 P Q a w:=by
 unfold qA at h;split at h
 ·exact wpIn_region_list (Et hF h hf hq)
 ·cases h;exact wpIn_skip (hq a hf)
 ·cases h
def vP (P:Program)(N n:Nat){α:Type}(enc:α->List Value)(fv:Fv)(ps:Array Nat)(asg bd:Code)(x:Hn)(ρ:Env)(h:Hp)(K:aP):Prop:=
 fQ (Nat.beq ps.toList.length n&&(ps.toList.all (λp=>Nat.blt p N)&&oc P true bd x))
  (AP P enc fv h (λy J s=>match qA N asg (om ps.toList (enc y) ρ)with
   | some ρ'=>iF P N bd x (λe _ s'=>match e with | .normal=>J s'|_=>False) ρ' s
   | none=>False) K)
theorem HZ {w:World}{o:Obj}{b:Nat}(h:b<w.heap.size):(w.alloc o).heap[b]?=w.heap[b]? := by
 show(w.heap.push o)[b]?=w.heap[b]?;rw[vN,zB O]
theorem UQ (w:World)(l:Nat)(o:Obj):Xt w (w.putObj l o):=⟨rfl,rfl,rfl,by simp⟩
theorem A6 {w:World}{l:Nat}{o:Obj}{F:Nat->Prop}(hl:F l):Ext F w.heap (w.putObj l o).heap:=⟨by simp,λb d a=>World.putObj_heap_other λe=>a (by rw[e];exact hl)⟩
theorem MB {N n:Nat}{α:Type}{enc:α->List Value}(henc:∀y,(enc y).length=n){fv:Fv}{g:Operand}{ps:Array Nat}{asg bd:Code}{x:Hn}{ρ:Env}{a:Act}{w:World}{K:aP}{Q:Exit->Act->World->Prop}
 (hg:a.eval g=.func (.func fv.f) fv.first fv.captured) (hf:Fits N ρ a) (h:vP P N n enc fv ps asg bd x ρ w.heap K)
 (hQ:∀w',Xt w w'->w'.heap[w.heap.size]?=some (.deferred (some []))->K w'.heap->Q .normal {a with defers:={target:=.collected w.heap.size,args := #[]}::a.defers} w'):(Code.rangeFunc g ps asg bd).wpIn Fence.wide m0 P Q a w:=by
 unfold vP at h;rw[WK]at h;obtain⟨hc,r,H,xs,Kp,I,S,m,ae,h0,C,V⟩:=h;simp only[zE,kf]at hc;obtain⟨hn,ab,ad⟩:=hc;have Y:∀y,(enc y).length=ps.size:=λy=>by
  rw[henc y,←jZ hn];simp
 rw[r]at hg;refine wpIn_rangeFunc ?_;intro fn hfn;obtain⟨i,d⟩:∃i:LoopState->Option Code->Loop,i=λst pe=>{state:=st,pending:=pe,fn,tmps:=a.tmps,params:=ps,assign:=asg,body:=bd,defers:=w.heap.size}:=⟨_,rfl⟩;obtain⟨W1,j⟩:∃W1,(w.alloc (.deferred (some []))).alloc (.loop (i .ready none))=W1:=⟨_,rfl⟩;have hsz:W1.heap.size=w.heap.size+2:=by rw[←j];simp
 have aa:W1.heap[w.heap.size+1]?=some (.loop (i .ready none)):=by
  rw[←j];have:=World.alloc_heap_new (w.alloc (.deferred (some []))) (.loop (i .ready none));rwa [World.size_alloc]at this
 have ag:W1.heap[w.heap.size]?=some (.deferred (some [])):=by
  rw[←j];exact(HZ aA).trans (World.alloc_heap_new w _)
 have ac:bL w.heap W1.heap:=⟨O,λb z _=>by
  rw[←j];exact(HZ aE).trans (HZ z)⟩
 have af:Xt w W1:=⟨by rw[←j];rfl,by rw[←j];rfl,by rw[←j];rfl,O⟩;have R:∀{s s':Hp},bL s s'->Ext (λb=>b=w.heap.size\/b=w.heap.size+1) s s':=λe=>⟨e.1,λb z _=>e.2 b z id⟩;have bT:∀{s s':Hp} {b:Nat} {o:Obj},bL s s'->s[b]?=some o->s'[b]?=some o:=λe z=>(e.2 _ (jP.1 z).1 id).trans z;refine⟨w.heap.size+1,[{target:=.collected w.heap.size,args := #[]}],W1,{target:=.fn (.func fv.f) fv.captured,args := #[.func (.yield (w.heap.size+1)) #[] #[]]},W1,fv.f,
  #[.func (.yield (w.heap.size+1)) #[] #[]]++fv.captured,W1,?_,?_,λ_ _=>trivial,?_,λh=>by simp[Fence.wide]at h,?_⟩
 ·rw[←j,d];exact run_enterLoop_outer _ _ _ _ _
 ·simp only[resolve,hg];simp[go_sem]
 ·simp only[invoke];exact VL H _ _
 ·refine(S (w.heap.size+1) (λk s=>I k s/\s[w.heap.size+1]?=some (.loop (i .ready none))/\s[w.heap.size]?=some (.deferred (some [])))
   (λk s s' M e=>⟨m k s s' M.1 (R e),bT e M.2.1,bT e M.2.2⟩) (λk s M=>ae k s M.1) ?_ W1.heap ⟨m 0 _ _ h0 (R ac),aa,ag⟩ W1 rfl (m0-1)).mono ?_
  ·rintro k xv hx s ⟨hI,hl,hk⟩ W rfl;rw[za,nR]at hx;obtain⟨y,hy,rfl⟩:=hx;have hlt:w.heap.size+1<W.heap.size:=(jP.1 hl).1;have X:=run_yield (P:=P) (args:=(enc y).toArray) hl (by rw[d];simpa using Y y);rw[d]at X;refine⟨fn,_,asg,bd,X,roundIn_of_wpIn trivial ?_⟩;have hr:=C k y hy;cases hasg:qA N asg (om ps.toList (enc y) ρ)with
   | none=>
    have:=hr W.heap hI O;simp only[hasg]at this
   | some ρ'=>
    have Z:Fits N (om ps.toList (enc y) ρ) {tmps:=(ps.zip (enc y).toArray).foldl (λtmps (t,a)=>tmps.setIfInBounds t a) a.tmps,defers:=[]}:=by
     have h1:=JF ps.toList (enc y) (t:=a.tmps) (λp hp=>by have:=ab p hp;rwa [Nat.blt_eq]at this) (by
      have:=hf;exact⟨rfl,this.size,this.at_⟩)
     have h2:(ps.zip (enc y).toArray).foldl (λtmps (t,a)=>tmps.setIfInBounds t a) a.tmps=(ps.toList.zip (enc y)).foldl (λt (x:Nat×Value)=>t.setIfInBounds x.1 x.2) a.tmps:=by
      rw[←Array.foldl_toList];simp
     rw[h2];exact h1
    refine OS (F:=Fence.wide.inRound (w.heap.size+1)) (λf=>trivial) hasg Z λa1 D=>⟨_,run_beginRound hl (by rw[d]),?_⟩;have E:(W.putObj (w.heap.size+1) (.loop {i .ready none with state:=.busy})).heap[w.heap.size+1]?=some (.loop {i .ready none with state:=.busy}):=World.putObj_heap_same hlt;have A:(W.putObj (w.heap.size+1) (.loop {i .ready none with state:=.busy})).heap[w.heap.size]?=some (.deferred (some [])):=(World.putObj_heap_other O).trans hk;have z:=hr (W.putObj (w.heap.size+1) (.loop {i .ready none with state:=.busy})).heap (m k _ _ hI (A6 (.inr rfl))) (by rw[World.putObj_size];omega);simp only[hasg]at z;refine Ku (ro:=some (w.heap.size+1)) (m0:=0) (ds:=[]) bd z ad ⟨by rw[Ug D.defers];exact D,D.defers⟩ λe ρ2 a2 w2 hf2 G hq=>?_;cases e
    case normal=>
     obtain⟨u,U,J⟩:=hq;rw[E]at J;rw[A]at U;have B:=run_endRound (P:=P) none J;refine⟨_,_,B,((UQ _ _ _).trans G).trans (UQ _ _ _),true,rfl,rfl,m _ _ _ u (A6 (.inr rfl)),?_,(World.putObj_heap_other O).trans U⟩;rw[World.putObj_heap_same (jP.1 J).1,d];rfl
    all_goals exact hq.elim
  ·rintro e W2 ⟨G,⟨v,rfl⟩,u,E,A⟩;have B:=run_endLoop (P:=P) E (by rw[d];simp);refine⟨none,_,by rw[d]at B;exact B,?_⟩;have hlt2:=(jP.1 A).1;rw[zk]at u;have L:∀o,(W2.putObj (w.heap.size+1) o).heap[w.heap.size]?=some (.deferred (some [])):=λo=>(World.putObj_heap_other O).trans A;exact hQ _ ((af.trans G).trans (UQ _ _ _)) (L _) (V _ (m _ _ _ u (A6 (.inr rfl))) (L _))
def uH (D:Nat)(s:Hp)(K:aP):Prop:=s[D]?=some (.deferred (some []))/\K (s.setIfInBounds D (.deferred none))
def oO (P:Program)(fn:Func)(rs:List SK)(R:eL (eU rs))(D:Nat):Exit->Env->Hp->Prop
 | .normal,ρ,h=>uH D h λh'=>lY P fn.results.toList rs ρ h' λvs=>sg (eU rs) R vs h'
 | .ret,ρ,h=>uH D h λh'=>lY P fn.results.toList rs ρ h' λvs=>sg (eU rs) R vs h'
 | _,_,_=>False
inductive TX where
 | nx (x:Hn) (t:TX)
 | r1 (y:Hn) (c:CK) (bd b:Hn)
 | r2 (y:Hn) (c d:CK) (bd b:Hn)
def e1 (c:CK)(y:c.T):List Value:=[c.v y]
def e2 (c d:CK)(y:c.T×d.T):List Value:=[c.v y.1,d.v y.2]
def tV (P:Program)(fn:Func)(rs:List SK)(R:eL (eU rs)):Code->TX->Env->Hp->Prop
 | .seq a b,.nx x t,ρ,h=>iF P fn.ntmps a x (vp (λρ' h'=>tV P fn rs R b t ρ' h') (oI P fn rs R)) ρ h
 | .seq (.seq r (.block _ (.rangeFunc g ps asg bd))) b,.r1 y c yb yc,ρ,h=>iF P fn.ntmps r y (λe ρ' h'=>match e with
  | .normal=>wv (ev ρ' g) λvg=>m5 .fn vg λfv=>fQ (oc P false b yc) (vP P fn.ntmps 1 (e1 c) fv ps asg bd yb ρ' h' λs=>iF P fn.ntmps b yc (oO P fn rs R h'.size) ρ' s)
  | _=>False) ρ h
 | .seq (.seq r (.block _ (.rangeFunc g ps asg bd))) b,.r2 y c d yb yc,ρ,h=>iF P fn.ntmps r y (λe ρ' h'=>match e with
  | .normal=>wv (ev ρ' g) λvg=>m5 .fn vg λfv=>fQ (oc P false b yc) (vP P fn.ntmps 2 (e2 c d) fv ps asg bd yb ρ' h' λs=>iF P fn.ntmps b yc (oO P fn rs R h'.size) ρ' s)
  | _=>False) ρ h
 | _,_,_,_=>False
theorem Hk {fn:Func}{rs:List SK}{R:eL (eU rs)}{w0:World}{e:Exit}{ρ:Env}{a:Act}{w:World}(hf:Fits fn.ntmps ρ a)(io:Xt w0 w)(h:oI P fn rs R e ρ w.heap) :
 bodyPostM Fence.wide m0 P fn (λe w'=>Xt w0 w'/\∃vs,e=.returned (pack rs vs)/\Sat (eU rs) R vs w'.heap) e a w:=by
 cases e<;>simp only[oI]at h
 case normal=>
  obtain⟨vs,b,d⟩:=VC hf h;show LeavesInM _ _ _ _ _ _ a.defers _ _;rw[hf.defers];exact⟨_,d,io,vs,rfl,Ha b⟩
 case ret=>
  obtain⟨vs,b,d⟩:=VC hf h;show LeavesInM _ _ _ _ _ _ a.defers _ _;rw[hf.defers];exact⟨_,d,io,vs,rfl,Ha b⟩
theorem Oe {fn:Func}{rs:List SK}{R:eL (eU rs)}{w0:World}{D:Nat}{e:Exit}{ρ:Env}{a:Act}{w:World}(hf:lN [{target:=.collected D,args := #[]}] fn.ntmps ρ a)(io:Xt w0 w)(h:oO P fn rs R D e ρ w.heap) :
 bodyPostM Fence.wide m0 P fn (λe w'=>Xt w0 w'/\∃vs,e=.returned (pack rs vs)/\Sat (eU rs) R vs w'.heap) e a w:=by
 have b:∀{K:List Value->Prop},(uH D w.heap λi=>lY P fn.results.toList rs ρ i λvs=>sg (eU rs) R vs i) →
  LeavesInM Fence.wide m0 P fn a.tmps (λe w'=>Xt w0 w'/\∃vs,e=.returned (pack rs vs)/\Sat (eU rs) R vs w'.heap) a.defers .returning w:=by
  intro K hd;obtain⟨j,g⟩:=hd;rw[hf.d];obtain⟨vs,m,p⟩:=VC (w:=w.putObj D (.deferred none)) hf.f g;exact⟨by simp,.inl ⟨_,_,rfl,run_takeDeferred j,_,p,io.trans (UQ _ _ _),vs,rfl,Ha m⟩⟩
 cases e<;>simp only[oO]at h
 case normal=>exact b (K:=λ_=>True) h
 case ret=>exact b (K:=λ_=>True) h
theorem Tx {fn:Func}{rs:List SK}{R:eL (eU rs)}{w0:World}:∀(c:Code) {t:TX} {ρ:Env} {a:Act} {w:World},tV P fn rs R c t ρ w.heap->Fits fn.ntmps ρ a->Xt w0 w →
 c.wpIn Fence.wide m0 P (bodyPostM Fence.wide m0 P fn (λe w'=>Xt w0 w'/\∃vs,e=.returned (pack rs vs)/\Sat (eU rs) R vs w'.heap)) a w:=by
 intro c;have K:∀{α:Type} {n:Nat} {enc:α->List Value} (henc:∀y,(enc y).length=n) {r b:Code} {y yb yc:Hn} {id:Nat} {g:Operand} {ps:Array Nat} {asg bd:Code} {ρ:Env} {a:Act} {w:World},
  iF P fn.ntmps r y (λe u J=>match e with
   | .normal=>wv (ev u g) λM=>m5 .fn M λL=>fQ (oc P false b yc) (vP P fn.ntmps n enc L ps asg bd yb u J λs=>iF P fn.ntmps b yc (oO P fn rs R J.size) u s)
   | _=>False) ρ w.heap->Fits fn.ntmps ρ a->Xt w0 w →
  (Code.seq (.seq r (.block id (.rangeFunc g ps asg bd))) b).wpIn Fence.wide m0 P (bodyPostM Fence.wide m0 P fn (λe w'=>Xt w0 w'/\∃vs,e=.returned (pack rs vs)/\Sat (eU rs) R vs w'.heap)) a w:=by
  intro α n enc henc r b y yb yc id g ps asg bd ρ a w h hf io;refine wpIn_seq (wpIn_seq (wpIn_wide.2 (QL r h hf λe u C w' j m U p=>?_)));cases e
  case normal=>
   obtain⟨M,S,A⟩:=WE p;obtain⟨L,rfl,z⟩:=VZ A;rw[WK]at z;obtain⟨H,E⟩:=z;refine wpIn_block (MB henc (j.ev _ _ S) j E λZ G V Q=>?_);have D:lN [{target:=.collected w'.heap.size,args := #[]}] fn.ntmps u {C with defers:={target:=.collected w'.heap.size,args := #[]}::C.defers}:=
    ⟨⟨rfl,j.size,j.at_⟩,by simp only[j.defers]⟩
   exact Ku (ro:=none) (ds:=[{target:=.collected w'.heap.size,args := #[]}]) b Q H D λe Y W X B F N=>Oe B (((io.trans m).trans G).trans F) N
  all_goals exact p.elim
 induction c with
 | seq a b iha ihb=>
  intro t ρ act w h hf io;cases t with
  | nx x t=>
   simp only[tV]at h;refine wpIn_seq (wpIn_wide.2 (QL a h hf λe u C w' j m U p=>?_));cases e
   case normal=>exact ihb p j (io.trans m)
   case ret=>exact Hk (m0:=m0) (P:=P) (e:=.ret) (R:=R) j (io.trans m) p
   case exit i=>exact Hk (m0:=m0) (P:=P) (e:=.exit i) (R:=R) j (io.trans m) p
   case goto i=>exact Hk (m0:=m0) (P:=P) (e:=.goto i) (R:=R) j (io.trans m) p
   case panic i=>exact Hk (m0:=m0) (P:=P) (e:=.panic i) (R:=R) j (io.trans m) p
   case outgrown=>exact Hk (m0:=m0) (P:=P) (e:=.outgrown) (R:=R) j (io.trans m) p
  | r1 y c yb yc=>
   unfold tV at h;split at h
   case h_1 hx=>cases hx
   case h_2 heq hx=>cases heq;cases hx;exact K (n:=1) (enc:=e1 _) (λ_=>rfl) h hf io
   case h_3 hx=>cases hx
   case h_4=>exact h.elim
  | r2 y c d yb yc=>
   unfold tV at h;split at h
   case h_1 hx=>cases hx
   case h_2 hx=>cases hx
   case h_3 heq hx=>cases heq;cases hx;exact K (n:=2) (enc:=e2 _ _) (λ_=>rfl) h hf io
   case h_4=>exact h.elim
 | _=>intro t ρ act w h hf io;cases t<;>simp[tV]at h
def FI (P:Program)(fn:Func)(x:TX)(args:List Value)(rs:List SK)(R:eL (eU rs))(h:Hp):Prop:=
 match fn.body with
 | some c=>fQ (Nat.ble args.length fn.ntmps) (tV P fn rs R c x (GK args) h)
 | none=>False
theorem DB {f:Nat}{fn:Func}{x:TX}{args:List Value}{rs:List SK}{R:eL (eU rs)}{h:Hp}(hfn:P.funcs[f]?=some fn)(hk:FI P fn x args rs R h):Wi P f args.toArray rs h R:=by
 intro w hw;subst hw;unfold FI at hk;split at hk
 case h_2=>exact hk.elim
 rename_i c hb;rw[WK]at hk;obtain⟨d,hk⟩:=hk;have e:args.length<=fn.ntmps:=ym d;refine callsIn_wide.1 (callsIn_of_wp_marks (n:=0) hfn hb trivial (Tx c hk ⟨rfl,by simp;omega,λi v a=>?_⟩ (.refl _)));simp only[GK]at a;have b:i<args.length:=(cZ.1 a).1;rw[xg (by simpa using b)];simpa using a
end Go.Vc
namespace Go.Proofs
open Go.Vc
set_option maxRecDepth 100000
def Wh.h:Hn:=.q .o1 (.q (.q .o2 .aK) (.q .o4 .l))
def Wh.v (a:Sl)(b:Hp)(c:Sl->Hp->Prop):Prop:=If a.a.isNone (c ⟨none,0,0⟩ b) (aV #[] 101 b λd e=>App ⟨some d,0,0⟩ 2 16 101 [.I 0,.I 0] a e λf g=>c f g)
theorem Wh.o {a b c}(d:Wh.v a b c):Wh.c a b c:=Wa Tryz.func79 (x:=Wh.h) (R0 d)
def W8.h:Hn:=.q .o1 (.kj [] (.q .o3 (.c .o2 .l)) (.q .o4 (.q (.q .o1 (.k (.loop [(3,.I),(4,.I)] (.q (.q .o4 (.c .l .l)) (.q (.k .o7) .o3))))) .aL)))
def W8.v (a:Sl)(b:Hp)(c:aN):Prop:=Jn [] (λd=>Ix a.a a.len 0 1 λe=>bN e d λf=>Ya [bO,bO] (λg=>g f 1 d) λh (i:Int) (j:Int) k=>If (j<((a.len:Nat):Int)) (Ix a.a a.len j 1 λl=>bN l k λm=>bM (j+1) λn=>h (if m<i then m else i) n k) (c i k)) λo=>If (((a.len:Nat):Int)<1) (False) (o b)
theorem W8.o {a b c}(d:W8.v a b c):W8.c a b c:=Wa Tryz.func108 (x:=W8.h) (R0 d)
def Qk.xu (l:Nat)(cap0:Addr)(U:Hp)(R:aP):Prop:=
 lr cap0 U λt4=>
 oW .i64 (.ag 5) t4 U λit v=>
 Ya [] (λI=>I v) λJ v1=>
 pG .i64 (.ag 5) it v1 (R v1)
  (λkey val v2=>
  oK .i64 (.ag 5) it v2 λkey1 val1=>
  HN Tryz.prog l [.int .i64 key1] v2 λmore v3=>
  If (!more) (R v3)
   (J v3))
def Wb.h:Hn:=.q .o1 (.q .o5 .l)
def Wb.v (a:Sl)(b:Fv)(c:Hp)(d:aO):Prop:=We.c a b c λe f=>d (decide (e≥0)) f
theorem Wb.o {a b c d}(e:Wb.v a b c d):Wb.c a b c d:=Wa Tryz.func114 (x:=Wb.h) (R0 e)
def Wg.h:Hn:=.q .o2 (.q .o3 (.q .o3 (.q (.k (.loop [(9,.I),(10,.I)] (.q (.q .o3 (.c .l .l)) (.k (.q .o7 (.q .o8 (.c .o3 .o2))))))) (.q (.cW (.seq [.op,.op,.op,.op,.op,.cR true 8 (RI.ops 8),.op,.op])) .l))))
def Wg.v (a:Sl)(b:Int)(c:Fv)(d:Hp)(e:Int->Bool->Hp->Prop):Prop:=Ya [bO,bO] (λf=>f 0 ((a.len:Nat):Int) d) λg (h:Int) (i:Int) j=>If (h<i) (bM (h+i) λk=>Ar .u64 k λl=>Nn (1:Int) <| bM (l.fdiv (2^(min (1:Int).toNat IntKind.u64.bits))) λm=>Ix a.a a.len m 4 λn=>aQ n 0 j λo=>aQ n 1 j λp=>aQ n 2 j λq=>aQ n 3 j λr=>VH Tryz.prog c [.agg #[.I o,.I p,.I q,.I r],.I b] [.I] j λs t=>If (s<0) (bM (m+1) λu=>g u i t) (g h m t)) (bV (λv w=>e h v w) λx=>If (h<((a.len:Nat):Int)) (Ix a.a a.len h 4 λy=>aQ y 0 j λz=>aQ y 1 j λaa=>aQ y 2 j λab=>aQ y 3 j λac=>VH Tryz.prog c [.agg #[.I z,.I aa,.I ab,.I ac],.I b] [.I] j λad ae=>x (ad==0) ae) (x false j))
theorem Wg.o {a b c d e}(f:Wg.v a b c d e):Wg.c a b c d e:=Wa Tryz.func116 (x:=Wg.h) (R0 f)
def QE.xu (l:Nat)(cap0:Addr)(U:Hp)(R:aP):Prop:=
 lr cap0 U λt4=>
 oW .i64 (.ag 4) t4 U λit v=>
 Ya [] (λI=>I v) λJ v1=>
 pG .i64 (.ag 4) it v1 (R v1)
  (λkey val v2=>
  oK .i64 (.ag 4) it v2 λkey1 val1=>
  HN Tryz.prog l [.int .i64 key1] v2 λmore v3=>
  If (!more) (R v3)
   (J v3))
def WA.h:Hn:=.q .o1 (.q .o5 .l)
def WA.v (a:Sl)(b:Int)(c:Hp)(d:aO):Prop:=W0.c a b c λe f=>d (decide (e≥0)) f
theorem WA.o {a b c d}(e:WA.v a b c d):WA.c a b c d:=Wa Tryz.func122 (x:=WA.h) (R0 e)
def Wp.h:Hn:=.q .o1 (.q (.q .o2 .aK) (.q .o4 .l))
def Wp.v (a:Sl)(b:Hp)(c:Sl->Hp->Prop):Prop:=If a.a.isNone (c ⟨none,0,0⟩ b) (aV #[] 149 b λd e=>App ⟨some d,0,0⟩ 3 24 149 [.I 0,.I 0,.I 0] a e λf g=>c f g)
theorem Wp.o {a b c}(d:Wp.v a b c):Wp.c a b c:=Wa Tryz.func141 (x:=Wp.h) (R0 d)
def W3.h:Hn:=.q .o1 (.q (.q .o2 .aK) (.q .o4 .l))
def W3.v (a:Sl)(b:Hp)(c:Sl->Hp->Prop):Prop:=If a.a.isNone (c ⟨none,0,0⟩ b) (aV #[] 3 b λd e=>App ⟨some d,0,0⟩ 1 8 3 [.I 0] a e λf g=>c f g)
theorem W3.o {a b c}(d:W3.v a b c):W3.c a b c:=Wa Tryz.func146 (x:=W3.h) (R0 d)
def Wr.h:Hn:=.q .o2 (.q .o5 .l)
def Wr.v (a:Sl)(b c:Bool)(d:Hp)(e:aO):Prop:=aV #[.bool b,.bool c] 181 d λf g=>aZ f 0 g λh=>aZ f 1 g λi=>Wz.c a h i g λj k=>e (decide (j≥0)) k
theorem Wr.o {a b c d e}(f:Wr.v a b c d e):Wr.c a b c d e:=Wa Tryz.func157 (x:=Wr.h) (R0 f)
def We.h:Hn:=.q .o1 (.q (.q .o3 (.k (.loop [(8,.I)] (.q .o1 (.q (.c .l .l) (.q (.k (.q .o2 (.q .o6 .aJ))) .o2)))))) .aM)
def We.v (a:Sl)(b:Fv)(c:Hp)(d:aN):Prop:=Ya [bO] (λe=>e 0 c) λf (g:Int) h=>If (g<((a.len:Nat):Int)) (Ix a.a a.len g 2 λi=>aQ i 0 h λj=>aQ i 1 h λk=>VH Tryz.prog b [.agg #[.I j,.I k]] [.one .b] h λl m=>If l (d g m) (bM (g+1) λn=>f n m)) (d (-1) h)
theorem We.o {a b c d}(e:We.v a b c d):We.c a b c d:=Wa Tryz.func161 (x:=We.h) (R0 e)
def W0.h:Hn:=.q .o1 (.q (.q .o3 (.k (.loop [(8,.I)] (.q .o1 (.q (.c .l .l) (.q (.k (.q .o2 (.q .o6 .aJ))) .o2)))))) .aM)
def W0.v (a:Sl)(b:Int)(c:Hp)(d:aN):Prop:=Ya [bO] (λe=>e 0 c) λf (g:Int) h=>If (g<((a.len:Nat):Int)) (Ix a.a a.len g 1 λi=>bN i h λj=>If (b==j) (d g h) (bM (g+1) λk=>f k h)) (d (-1) h)
theorem W0.o {a b c d}(e:W0.v a b c d):W0.c a b c d:=Wa Tryz.func163 (x:=W0.h) (R0 e)
def WC.h:Hn:=.q .o1 (.q (.q .o2 .aK) (.q .o4 .l))
def WC.v (a:Sl)(b:Hp)(c:Sl->Hp->Prop):Prop:=If a.a.isNone (c ⟨none,0,0⟩ b) (aV #[] 147 b λd e=>App ⟨some d,0,0⟩ 2 32 147 [.I 0,.slice none 0 0] a e λf g=>c f g)
theorem WC.o {a b c}(d:WC.v a b c):WC.c a b c:=Wa Tryz.func180 (x:=WC.h) (R0 d)
def Wz.h:Hn:=.q .o2 (.q (.q .o3 (.k (.loop [(8,.I)] (.q .o1 (.q (.c .l .l) (.q (.k (.q .o2 (.q (.oq 6) .aJ))) .o2)))))) .aM)
def Wz.v (a:Sl)(b c:Bool)(d:Hp)(e:aN):Prop:=aV #[.bool b,.bool c] 181 d λf g=>Ya [bO] (λh=>h 0 g) λi (j:Int) k=>If (j<((a.len:Nat):Int)) (aZ f 0 k λl=>aZ f 1 k λm=>Ix a.a a.len j 2 λn=>aZ n 0 k λo=>aZ n 1 k λp=>If ((l==o)&&((m==p)&&true)) (e j k) (bM (j+1) λq=>i q k)) (e (-1) k)
theorem Wz.o {a b c d e}(f:Wz.v a b c d e):Wz.c a b c d e:=Wa Tryz.func214 (x:=Wz.h) (R0 f)
def Wu.h:Hn:=.q .o1 (.q (.q .o3 (.k (.loop [(8,.I)] (.q .o1 (.q (.c .l .l) (.q (.k (.q .o2 (.q .o6 .aJ))) .o2)))))) .aM)
def Wu.v (a:Sl)(b:Fv)(c:Hp)(d:aN):Prop:=Ya [bO] (λe=>e 0 c) λf (g:Int) h=>If (g<((a.len:Nat):Int)) (Ix a.a a.len g 3 λi=>aQ i 0 h λj=>aQ i 1 h λk=>aQ i 2 h λl=>VH Tryz.prog b [.agg #[.I j,.I k,.I l]] [.one .b] h λm n=>If m (d g n) (bM (g+1) λo=>f o n)) (d (-1) h)
theorem Wu.o {a b c d}(e:Wu.v a b c d):Wu.c a b c d:=Wa Tryz.func227 (x:=Wu.h) (R0 e)
def Xg.h:Hn:=.q .o5 (.k (.loop [(2,.I),(3,.I)] (.q (.q .o3 (.c .l .l)) (.q (.k (.cW (.held true [13,15] (.tk [0,1,2,3,4,5,6,7,8,9,10,11,12] (.all [(13,.take 14 (.all [(15,.done)]))]))))) .o6))))
def Xg.v (a:Sl)(b:Hp)(c:aP):Prop:=bM (((a.len:Nat):Int)-1) λd=>Ya [bO,bO] (λe=>e 0 d b) λf (g:Int) (h:Int) i=>If (g<h) (dZ i λj=>Ix a.a a.len h 1 λk=>gE j bO k λ(l:Int)=>Ix a.a a.len g 1 λm=>gE j bO m λ(n:Int)=>Ix a.a a.len g 1 λo=>dU o (.I l) i λp=>Ix a.a a.len h 1 λq=>dU q (.I n) p λr=>bM (g+1) λs=>bM (h-1) λt=>f s t r) (c i)
theorem Xg.o {a b c}(d:Xg.v a b c):Xg.c a b c:=Wa Tryz.func236 (x:=Xg.h) (R0 d)
def Wk.h:Hn:=.q .o1 (.q .o4 (.q (.q .o2 .aJ) (.q (.q .o3 (.k (.loop [(5,.I),(6,.I)] (.q (.q .o4 (.c .l .l)) (.q (.k (.q .o6 (.q .o4 (.c (.q .o5 .o3) .l)))) .o3))))) (.q .o4 (.q .o4 .l)))))
def Wk.v (a:Sl)(b:Fv)(c:Hp)(d:Sl->Hp->Prop):Prop:=Wo.c a b c λe f=>If (e==(-1)) (d a f) (bM (e+1) λg=>Ya [bO,bO] (λh=>h e g f) λi (j:Int) (k:Int) l=>If (k<((a.len:Nat):Int)) (Ix a.a a.len k 3 λm=>aQ m 0 l λn=>aQ m 1 l λo=>aY m 2 l λp=>aV #[.I 0,.I 0,.pointer none] 279 l λq r=>aR q 0 (.I n) r λs=>aR q 1 (.I o) s λt=>aR q 2 (.pointer p) t λu=>aQ q 0 u λv=>aQ q 1 u λw=>aY q 2 u λx=>VH Tryz.prog b [.agg #[.I v,.I w,.pointer x]] [.one .b] u λy z=>If (!y) (aQ q 0 z λaa=>aQ q 1 z λab=>aY q 2 z λac=>Ix a.a a.len j 3 λad=>aR ad 0 (.I aa) z λae=>aR ad 1 (.I ab) ae λaf=>aR ad 2 (.pointer ac) af λag=>bM (j+1) λah=>bM (k+1) λai=>i ah ai ag) (bM (k+1) λaj=>i j aj z)) (fo a 3 j (a.len:Nat) (a.cap:Nat) λak=>AV ak [.I 0,.I 0,.pointer none] l λal=>fo a 3 0 j (a.cap:Nat) λam=>d am al))
theorem Wk.o {a b c d}(e:Wk.v a b c d):Wk.c a b c d:=Wa Tryz.func247 (x:=Wk.h) (R0 e)
def Ws.h:Hn:=.q .o1 (.q (.q .o3 (.k (.loop [(8,.I)] (.q .o1 (.q (.c .l .l) (.q (.k (.q .o2 (.q .o6 .aJ))) .o2)))))) .aM)
def Ws.v (a:Sl)(b:Fv)(c:Hp)(d:aN):Prop:=Ya [bO] (λe=>e 0 c) λf (g:Int) h=>If (g<((a.len:Nat):Int)) (Ix a.a a.len g 1 λi=>fS i h λj=>VH Tryz.prog b [.pointer j] [.one .b] h λk l=>If k (d g l) (bM (g+1) λm=>f m l)) (d (-1) h)
theorem Ws.o {a b c d}(e:Ws.v a b c d):Ws.c a b c d:=Wa Tryz.func282 (x:=Ws.h) (R0 e)
def Wc.h:Hn:=.q .o2 (.q .o3 (.q .o3 (.q (.k (.loop [(9,.I),(10,.I)] (.q (.q .o3 (.c .l .l)) (.k (.q .o7 (.q .o8 (.c .o3 .o2))))))) (.q (.cW (.seq [.op,.op,.op,.op,.op,.cR true 8 (RI.ops 8),.op,.op])) .l))))
def Wc.v (a:Sl)(b:Int)(c:Fv)(d:Hp)(e:Int->Bool->Hp->Prop):Prop:=Ya [bO,bO] (λf=>f 0 ((a.len:Nat):Int) d) λg (h:Int) (i:Int) j=>If (h<i) (bM (h+i) λk=>Ar .u64 k λl=>Nn (1:Int) <| bM (l.fdiv (2^(min (1:Int).toNat IntKind.u64.bits))) λm=>Ix a.a a.len m 3 λn=>aQ n 0 j λo=>aQ n 1 j λp=>aY n 2 j λq=>VH Tryz.prog c [.agg #[.I o,.I p,.pointer q],.I b] [.I] j λr s=>If (r<0) (bM (m+1) λt=>g t i s) (g h m s)) (bV (λu v=>e h u v) λw=>If (h<((a.len:Nat):Int)) (Ix a.a a.len h 3 λx=>aQ x 0 j λy=>aQ x 1 j λz=>aY x 2 j λaa=>VH Tryz.prog c [.agg #[.I y,.I z,.pointer aa],.I b] [.I] j λab ac=>w (ab==0) ac) (w false j))
theorem Wc.o {a b c d e}(f:Wc.v a b c d e):Wc.c a b c d e:=Wa Tryz.func291 (x:=Wc.h) (R0 f)
def Wn.h:Hn:=.q .o1 (.q .o3 (.q .o3 (.q (.q .o2 .aJ) (.q .o3 (.q (.q .o3 (.c (.q .o4 .l) .l)) (.q (.q .o6 (.c (.q .fZ (.q .o5 (.q (.cW (.tail 8 (RI.ops 8) [.op])) .aL))) .l)) (.q .o6 (.q (.q .o8 (.c (.q (.cW (.tail 8 (RI.ops 8) [.op])) (.q .o5 .aL)) .l)) (.q .o5 (.q .o5 .aL))))))))))
def Wn.v (a:Sl)(b:Int)(c:Sl)(d:Hp)(e:Sl->Hp->Prop):Prop:=fo a 3 b (a.len:Nat) (a.cap:Nat) λf=>If (((c.len:Nat):Int)==0) (e a d) (If (b==((a.len:Nat):Int)) (App a 3 24 279 [.I 0,.I 0,.pointer none] c d λg h=>e g h) (bM (((a.len:Nat):Int)+((c.len:Nat):Int)) λi=>If (i>((a.cap:Nat):Int)) (fo a 3 0 b (a.cap:Nat) λj=>bM (((a.len:Nat):Int)+((c.len:Nat):Int)) λk=>bM (k-b) λl=>sN j 3 24 279 [.I 0,.I 0,.pointer none] l d λm n=>fo m 3 b (m.len:Nat) (m.cap:Nat) λo=>rR o 3 c n λp q=>bM (b+((c.len:Nat):Int)) λr=>fo m 3 r (m.len:Nat) (m.cap:Nat) λs=>fo a 3 b (a.len:Nat) (a.cap:Nat) λt=>rR s 3 t q λu v=>e m v) (bM (((a.len:Nat):Int)+((c.len:Nat):Int)) λw=>fo a 3 0 w (a.cap:Nat) λx=>bM (b+((c.len:Nat):Int)) λy=>fo x 3 y (x.len:Nat) (x.cap:Nat) λz=>tH Tryz.prog 320 [.slice c.a c.len c.cap,.slice z.a z.len z.cap] d λaa ab=>If (!aa) (bM (b+((c.len:Nat):Int)) λac=>fo x 3 ac (x.len:Nat) (x.cap:Nat) λad=>fo x 3 b (x.len:Nat) (x.cap:Nat) λae=>rR ad 3 ae ab λaf ag=>fo x 3 b (x.len:Nat) (x.cap:Nat) λah=>rR ah 3 c ag λai aj=>e x aj) (fo x 3 ((a.len:Nat):Int) (x.len:Nat) (x.cap:Nat) λak=>rR ak 3 c ab λal am=>fo x 3 b (x.len:Nat) (x.cap:Nat) λan=>KM.c an ((c.len:Nat):Int) am λao=>e x ao))))
theorem Wn.o {a b c d e}(f:Wn.v a b c d e):Wn.c a b c d e:=Wa Tryz.func293 (x:=Wn.h) (R0 f)
def Xx.h:Hn:=.q .o1 (.q .o7 .l)
def Xx.v (a:Sl)(b:Hp)(c:Sl->Hp->Prop):Prop:=fo a 1 0 ((a.len:Nat):Int) ((a.len:Nat):Int) λd=>c d b
theorem Xx.o {a b c}(d:Xx.v a b c):Xx.c a b c:=Wa Tryz.func294 (x:=Xx.h) (R0 d)
def Wo.h:Hn:=.q .o1 (.q (.q .o3 (.k (.loop [(8,.I)] (.q .o1 (.q (.c .l .l) (.q (.k (.q .o2 (.q .o6 .aJ))) .o2)))))) .aM)
def Wo.v (a:Sl)(b:Fv)(c:Hp)(d:aN):Prop:=Ya [bO] (λe=>e 0 c) λf (g:Int) h=>If (g<((a.len:Nat):Int)) (Ix a.a a.len g 3 λi=>aQ i 0 h λj=>aQ i 1 h λk=>aY i 2 h λl=>VH Tryz.prog b [.agg #[.I j,.I k,.pointer l]] [.one .b] h λm n=>If m (d g n) (bM (g+1) λo=>f o n)) (d (-1) h)
theorem Wo.o {a b c d}(e:Wo.v a b c d):Wo.c a b c d:=Wa Tryz.func302 (x:=Wo.h) (R0 e)
def WN.h:Hn:=.q .o1 (.q .o5 .l)
def WN.v (a:Sl)(b:Fv)(c:Hp)(d:aO):Prop:=Xf.c a b c λe f=>d (decide (e≥0)) f
theorem WN.o {a b c d}(e:WN.v a b c d):WN.c a b c d:=Wa Tryz.func304 (x:=WN.h) (R0 e)
def Xf.h:Hn:=.q .o1 (.q (.q .o3 (.k (.loop [(8,.I)] (.q .o1 (.q (.c .l .l) (.q (.k (.q .o2 (.q .o6 .aJ))) .o2)))))) .aM)
def Xf.v (a:Sl)(b:Fv)(c:Hp)(d:aN):Prop:=Ya [bO] (λe=>e 0 c) λf (g:Int) h=>If (g<((a.len:Nat):Int)) (Ix a.a a.len g 1 λi=>bN i h λj=>VH Tryz.prog b [.I j] [.one .b] h λk l=>If k (d g l) (bM (g+1) λm=>f m l)) (d (-1) h)
theorem Xf.o {a b c d}(e:Xf.v a b c d):Xf.c a b c d:=Wa Tryz.func334 (x:=Xf.h) (R0 e)
def Kw.xu (l:Nat)(cap0:Addr)(U:Hp)(R:aP):Prop:=
 lr cap0 U λt4=>
 oW .i64 .b t4 U λit v=>
 Ya [] (λI=>I v) λJ v1=>
 pG .i64 .b it v1 (R v1)
  (λkey val v2=>
  oK .i64 .b it v2 λkey1 val1=>
  HN Tryz.prog l [.int .i64 key1] v2 λmore v3=>
  If (!more) (R v3)
   (J v3))
def Wm.h:Hn:=.q .o1 (.q .o5 .l)
def Wm.v (a:Sl)(b:Fv)(c:Hp)(d:aO):Prop:=Ww.c a b c λe f=>d (decide (e≥0)) f
theorem Wm.o {a b c d}(e:Wm.v a b c d):Wm.c a b c d:=Wa Tryz.func341 (x:=Wm.h) (R0 e)
def Ww.h:Hn:=.q .o1 (.q (.q .o3 (.k (.loop [(8,.I)] (.q .o1 (.q (.c .l .l) (.q (.k (.q .o2 (.q .o6 .aJ))) .o2)))))) .aM)
def Ww.v (a:Sl)(b:Fv)(c:Hp)(d:aN):Prop:=Ya [bO] (λe=>e 0 c) λf (g:Int) h=>If (g<((a.len:Nat):Int)) (Ix a.a a.len g 2 λi=>aZ i 0 h λj=>aZ i 1 h λk=>VH Tryz.prog b [.agg #[.bool j,.bool k]] [.one .b] h λl m=>If l (d g m) (bM (g+1) λn=>f n m)) (d (-1) h)
theorem Ww.o {a b c d}(e:Ww.v a b c d):Ww.c a b c d:=Wa Tryz.func355 (x:=Ww.h) (R0 e)
end Go.Proofs
namespace Go.Bu
open Go Go.Vc Go.Proofs
variable {U:Hp}{p n sb:Nat}{S:Nat->Bool}{ms:List Nat}
theorem mC {k:Nat}{K:Int->Prop}(hk:k<=62)(hK:K ((2^k:Nat):Int)):Nn (k:Int) (Ar .i64 (1*2^(min (k:Int).toNat IntKind.i64.bits)) K):=by
 refine nn O ?_;rw[Ee hk];exact cS aA (I4 hk) hK
theorem tI {x k j:Nat}{K:Int->Prop}(hj:j=k)(hk:k<=62)(hx:x<=4611686018427387904)(hK:K ((x/2^k*2^k:Nat):Int)) :
 Ar .i64 (((x:Int).fdiv (2^(min (k:Int).toNat IntKind.i64.bits)))*2^(min (j:Int).toNat IntKind.i64.bits)) K:=by
 subst hj;rw[Ee hk,Bm];refine cS aA ?_ hK;exact j9 (xT _ _) hx
theorem BH.rN (h:BH U p n S sb ms){K:Int->Prop}(hK:K (n:Int)):gJ .i64 (Addr.add ⟨p,0,none⟩ 0) U K:=eY h.M3 hK
theorem BH.rB (h:BH U p n S sb ms){K:Sl->Prop}(hK:∀cap,K ⟨some ⟨sb,0,none⟩,ms.length,cap⟩):ju (Addr.add ⟨p,0,none⟩ 1) U K:=by
 obtain⟨cap,a⟩:=h.nv;rw[add_lit];exact nS a (hK cap)
theorem BH.rM (h:BH U p n S sb ms){k m:Nat}(hm:ms[k]?=some m){K:Option Nat->Prop}(hK:K (some m)):Ix (some ⟨sb,0,none⟩) ms.length (k:Int) 1 λa=>lr a U K:=by
 refine ix O (by have:=(cZ.1 hm).1;omega) ?_;rw[add_lit];refine I9 ?_ hK;have:=h.Tb hm;simpa using this
theorem Bl (h:BH U p n S sb ms){R:aO}(hR:R true U):Yh.c (aW p) U R:=by
 refine Yh.o ?_;unfold Yh.v;refine bV.intro (cD rfl (aG (h.rN ?_)));have:=h.n1;rw[zJ O];exact hR
def Zt (n:Nat)(start aF:Int):Bool:=decide (0<=start)&&(decide (1<=aF)&&decide (aF<=n-start))
theorem Nr (h:BH U p n S sb ms)(start aF:Int){R:aN}(h0:Zt n start aF=true->R 0 U)(h1:Zt n start aF=false->R 1 U):YW.c (aW p) start aF U R:=by
 refine YW.o ?_;unfold YW.v;have a:¬(0<=start/\1<=aF/\aF<=n-start)->R 1 U:=λe=>h1 (by simp only[Zt,←uN];exact zL e);have n1:=h.n1;have n2:=h.n2;refine Bl h (cE rfl (bV.intro ?_));refine cQ (λh1=>bV.intro (cD rfl (bV.intro (cD rfl (cD rfl (a O)))))) λh1=>?_;refine bV.intro (cQ (λg=>bV.intro (cD rfl (cD rfl (a O)))) λg=>?_);refine aG (h.rN ?_);refine bV.intro (cQ (λb=>cD rfl (a O)) λb=>?_);refine aG (h.rN (ar O O ?_));refine cQ (λd=>a O) λd=>h0 ?_;simp only[Zt,zE,zU];omega
theorem DX (h:BH U p n S sb ms)(x:Nat)(hx:x<=4611686018427387904){R:Int->Int->Bool->Hp->Prop}
 (h1:∀k q,can S k q=true->x/2^k=q->R (k:Int) ((q*2^k:Nat):Int) true U) (h0:S x=false->R 0 0 false U):XJ.c (aW p) (x:Int) U R:=by
 refine XJ.o ?_;unfold XJ.v;refine aG (h.rB λcap=>?_);refine Qg (a:=bO) (λt s=>∃k:Nat,t=(k:Int)/\k<=ms.length/\s=U/\∀j,j<k->can S j (x/2^j)=false) (λt _=>ms.length-t.toNat) ⟨0,rfl,O,rfl,λj d=>O⟩ ?_;rintro t s ⟨k,rfl,y,rfl,b⟩;have w:=h.len;refine cQ (λg=>?_) (λr=>?_)
 ·simp only at g;obtain⟨m,u⟩:=h.get (k:=k) O;refine h.rM u (nn O (nn O (tI rfl O hx (h.lk u rfl ?_))));cases hc:can S k (x/2^k)
  ·refine cE aA (cS (m:=k+1) O O ?_);refine⟨⟨k+1,rfl,O,rfl,λj d=>?_⟩,O⟩;by_cases e:j=k
   ·rw[e];exact hc
   ·exact b j O
  ·exact cD aA (h1 k _ hc rfl)
 ·simp only at r;refine h0 ?_;cases hs:S x
  ·rfl
  ·obtain⟨j,d⟩:=UT h.jr hs;have:=h.fits (ZZ h.jr (ZP.1 d).1);rw[b j O]at d;cases d
def lj (S:Nat->Bool)(x:Int):Bool:=decide (0<=x)&&S x.toNat
theorem Sr (h:BH U p n S sb ms)(x:Int){R:aO}(hR:R (lj S x) U):Yy.c (aW p) x U R:=by
 refine Yy.o ?_;unfold Yy.v;have n2:=h.n2;refine Bl h (bV.intro (cE rfl ?_));refine bV.intro (cQ (λg=>cD rfl ?_) λg=>aG (h.rN ?_))
 ·have:lj S x=false:=by simp[lj];intro;omega
  rw[this]at hR;exact hR
 ·refine cQ (λi=>?_) λi=>?_
  ·have:lj S x=false:=by
    simp only[lj];cases a:S x.toNat
    ·simp
    ·have:=h.jr _ a;omega
   rw[this]at hR;exact hR
  ·obtain⟨y,rfl⟩:=zc (show 0<=x by omega);have e:lj S (y:Int)=S y:=by simp[lj]
   rw[e]at hR;refine DX h y O (λk q b d=>?_) λa=>?_
   ·rw[Ua b d]at hR;exact hR
   ·rw[a]at hR;exact hR
theorem Oo {k q:Nat}(h:BH U p n S sb ms)(hf:q*2^k+2^k<=n)(hd:∀x,x/2^k=q->S x=false){R:aP}
 (hR:∀σ',Ext (· ∈ ms) U σ'->BH σ' p n (ins S k q) sb ms->R σ'):Zm.c (aW p) (k:Int) ((q*2^k:Nat):Int) U R:=by
 refine Zm.o ?_;unfold Zm.v;refine Us (a:=bO) (bb:=bO)
  (λo s B=>∃(j r:Nat) (T:Nat->Bool),o=(j:Int)/\s=((r*2^j:Nat):Int)/\r*2^j+2^j<=n/\BH B p n T sb ms/\Ext (· ∈ ms) U B/\(∀x,x/2^j=r->T x=false)/\ins T j r=ins S k q)
  (λo _ _=>ms.length-o.toNat) ⟨k,q,S,rfl,rfl,hf,h,Ext.refl _ _,hd,rfl⟩ ?_
 rintro o s B ⟨j,r,T,rfl,rfl,A,d,P,z,w⟩;have Y:=d.len;have Q:=d.fits A;have X:=d.n2;have W:=kL j;obtain⟨m,C⟩:=d.get Q;have y:¬full (ins T j r) (j+1) (r/2)=true->(bX (some ⟨p,0,none⟩) λK=>ju (K.add 1) B λD=>Ix D.a D.len (j:Int) 1 λL=>lr L B λH=>kH .i64 .b H ((r*2^j:Nat):Int) true B λv3=>R v3):=by
  intro g;refine aG (d.rB λcap=>d.rM C ?_);refine d.xm C z g A rfl λE e G=>hR E (P.trans e) ?_;rw[←w];exact G
 refine cS (m:=j+1) O O (aG (d.rB λcap=>bV.intro ?_));refine cQ (λM=>?_) (λJ=>?_)
 ·simp only at M;refine aG (d.rB λcap=>d.rM C (mC O ?_));have N:=I4 (show j<=62 by omega);have F:bits .xor .i64 ((r*2^j:Nat):Int) ((2^j:Nat):Int)=((ic r*2^j:Nat):Int):=by
   rw[TJ O O,TZ]
  rw[F];refine d.lk C rfl ?_;cases hc:can T j (ic r)
  ·refine cE aA (y (JV z (by simp[hc])))
  ·refine cD aA ?_;refine aG (d.rB λcap=>d.rM C (mC O ?_));rw[F];refine d.sq C hc rfl λE e G=>?_;refine cS (m:=j+1) O O (nn O (cS (m:=j+1) O O (nn O ?_)));refine tI rfl O O ?_;refine cS (m:=j+1) O O ⟨⟨j+1,r/2,del T j (ic r),rfl,?_,?_,G,P.trans e,?_,?_⟩,O⟩
   ·rw[mQ,←sI,Vd]
   ·-- both halves lie within
    have u:=ZZ d.jr (ZP.1 hc).1;have e2:r/2*2^(j+1)=(r/2*2)*2^j:=by rw[mQ,Nat.mul_comm (2^j) 2,←vL]
    rw[e2,mQ];have g:(r/2*2)+1=r\/(r/2*2)+1=ic r:=by unfold ic;split<;>omega
    have V:(r/2*2)*2^j+2^j*2=((r/2*2)+1)*2^j+2^j:=by rw[zl];omega
    rw[V];rcases g with e4|e4<;>rw[e4]<;>assumption
   ·intro x F;rcases HP.1 F with u|u
    ·simp[del,z x u]
    ·simp[del,u]
   ·rw[←w];refine tF λx=>?_;rw[VX,VX,VR,HP];by_cases u:x/2^j=ic r
    ·simp[u,Ua hc u]
    ·simp[u]
 ·simp only at J;refine cE rfl (y λg=>?_);have:=ZZ (FR d.jr A) g;have u:2^ms.length<=2^(j+1):=oL aB O;have:=d.hi;omega
theorem AX {a m:Nat}(h:BH U p n S sb ms)(hf:a+m<=n)(hd:∀x,a<=x->x<a+m->S x=false){R:aP}
 (hR:∀σ',Ext (· ∈ ms) U σ'->BH σ' p n (dE S a (a+m)) sb ms->R σ'):Yq.c (aW p) (a:Int) (m:Int) U R:=by
 refine Yq.o ?_;unfold Yq.v;have P:=h.n2;refine Us (a:=bO) (bb:=bO)
  (λs c w=>∃(a' g:Nat),s=(a':Int)/\c=(g:Int)/\a<=a'/\a'+g=a+m/\BH w p n (dE S a a') sb ms/\Ext (· ∈ ms) U w)
  (λ_ c _=>c.toNat) ⟨a,m,rfl,rfl,O,rfl,by rw[MT];exact h,Ext.refl _ _⟩ ?_
 rintro s c w ⟨a',g,rfl,rfl,C,L,E,H⟩;refine cQ (λG=>?_) (λW=>?_)
 ·refine Qg (a:=bO) (λk u=>∃j q:Nat,k=(j:Int)/\a'=q*2^j/\2^j<=g/\u=w) (λk _=>12-k.toNat) ⟨0,a',rfl,by simp,by simp;omega,rfl⟩ ?_;rintro k u ⟨j,q,rfl,J,N,rfl⟩;have V:j<=10:=by
   apply Classical.byContradiction;intro hc;have:2^11<=2^j:=oL aB O;omega
  refine cS (m:=j+1) O O (nn O (cS (m:=j+1) O O (nn O ?_)));refine tI rfl O O (bV.intro ?_);have r:(Zm.c (aW p) (j:Int) (a':Int) u λv3=>
   Nn (j:Int)<|Ar .i64 (1*2^(min (j:Int).toNat IntKind.i64.bits)) λz=>Ar .i64 ((a':Int)+z) λd=>
   Nn (j:Int)<|Ar .i64 (1*2^(min (j:Int).toNat IntKind.i64.bits)) λB=>Ar .i64 ((g:Int)-B) λb=>
   (∃(a'' m'':Nat),d=(a'':Int)/\b=(m'':Int)/\a<=a''/\a''+m''=a+m/\BH v3 p n (dE S a a'') sb ms/\Ext (· ∈ ms) U v3)/\b.toNat<(g:Int).toNat):=by
   subst J;refine Oo E O (λx K=>?_) λv3 e y=>?_
   ·have:=Qp.1 K;have M:=hd x O O;simp only[dE,M,vJ];rw[zL (show ¬x<q*2^j by omega),tW]
   ·have A:=kL j;refine mC O (cS (m:=q*2^j+2^j) O O (mC O (cS (m:=g-2^j) O O ?_)));refine⟨⟨_,_,rfl,rfl,O,O,?_,H.trans e⟩,O⟩;rw[JW,Ng C O]at y;exact y
  refine cU (λF=>?_) (λF=>cE rfl r);have D:a'/2^(j+1)*2^(j+1)=a':=by
   have:=zT.1 F
   exact_mod_cast this
  refine cS (m:=j+1) O O (mC O ?_);refine cQ (λQ=>?_) λ_=>r;refine cS (m:=j+1) O O ⟨⟨j+1,a'/2^(j+1),rfl,D.symm,O,rfl⟩,O⟩
 ·have:g=0:=by omega
  subst this;have:a'=a+m:=by omega
  subst this;exact hR w H E
theorem M8 {a m:Nat}(h:BH U p n S sb ms)(hf:a+m<=n)(hd:∀x,a<=x->x<a+m->S x=true){R:aP}
 (hR:∀σ',Ext (· ∈ ms) U σ'->BH σ' p n (take S a (a+m)) sb ms->R σ'):ZB.c (aW p) (a:Int) (m:Int) U R:=by
 refine ZB.o ?_;unfold ZB.v;have X:=h.n2;refine Qg (a:=bO) (λs w=>∃x:Nat,s=(x:Int)/\a<=x/\BH w p n (take S a (min x (a+m))) sb ms/\Ext (· ∈ ms) U w)
  (λs _=>a+m-s.toNat) ⟨a,rfl,O,by rw[pX O,Pr];exact h,Ext.refl _ _⟩ ?_
 rintro s w ⟨x,rfl,B,d,K⟩;refine cS (m:=a+m) O O ?_;refine cQ (λY=>?_) (λN=>?_)
 ·rw[pX O]at d;have P:take S a x x=true:=Ve.2 ⟨hd x B O,O⟩;refine DX d x O (λk q z L=>?_) (λj=>by rw[P]at j;cases j);have G:=ZZ d.jr (ZP.1 z).1;have V:=d.fits G;have hl:=d.len;obtain⟨mm,J⟩:=d.get V;have W:=Qp.1 L;refine aG (d.rB λcap=>d.rM J ?_);refine d.sq J z rfl λh1 e1 D=>?_;refine mC O (cS (m:=q*2^k+2^k) O O (cS (m:=x-q*2^k) O O ?_));refine AX D O (λy H F=>?_) λh2 e2 e=>?_
  ·have:y/2^k=q:=Qp.2 O;simp[del,this]
  ·have u:=(K.trans e1).trans e2;rw[show q*2^k+(x-q*2^k)=x by omega]at e;have g:∀y,q*2^k<=y/\y<q*2^k+2^k->S y=true/\¬(a<=y/\y<x):=λy b=>Ve.1 (Ua z (Qp.2 b));refine cS (m:=a+m) O O (cQ (λQ=>?_) λZ=>?_)
   ·refine cS (m:=q*2^k+2^k-(a+m)) O O ?_;refine AX e O (λy H F=>?_) λh3 M r=>?_
    ·have:y/2^k=q:=Qp.2 O;have C:¬y<x:=by omega
     simp[dE,del,this,C]
    ·refine⟨⟨_,rfl,O,?_,u.trans M⟩,O⟩;rw[Nat.min_eq_right O];have:dE (dE (del (take S a x) k q) (q*2^k) x) (a+m) (a+m+(q*2^k+2^k-(a+m)))=take S a (a+m):=by
      refine tF λy=>?_;have b:=g y;simp only[KI,VR,Ve,Ne,Qp];generalize q*2^k=A at *;generalize 2^k=E at *;cases j:S y
      ·rw[j]at b;simp only[zZ,false_and,false_or,iff_false,imp_false]at b ⊢;omega
      ·rw[j]at b;simp only[tD]at b ⊢;omega
     rw[this]at r;exact r
   ·refine⟨⟨_,rfl,O,?_,u⟩,O⟩;rw[pX O];have:dE (del (take S a x) k q) (q*2^k) x=take S a (q*2^k+2^k):=by
     refine tF λy=>?_;have b:=g y;simp only[KI,VR,Ve,Ne,Qp];generalize q*2^k=A at *;generalize 2^k=E at *;cases j:S y
     ·rw[j]at b;simp only[zZ,false_and,false_or,iff_false,imp_false]at b ⊢;omega
     ·rw[j]at b;simp only[tD]at b ⊢;omega
    rw[this]at e;exact e
 ·rw[Nat.min_eq_right O]at d;exact hR w K d
def pV (S:Nat->Bool)(a m:Nat):Bool:=(List.range m).all λi=>!S (a+i)
theorem VG {S:Nat->Bool}{a m:Nat}:pV S a m=true↔∀x,a<=x->x<a+m->S x=false:=by
 simp only[pV,kf,zh,mM];exact⟨λh x d e=>by have:=h (x-a) O;rwa [show a+(x-a)=x by omega]at this,λh i b=>h _ O O⟩
theorem Su {S:Nat->Bool}{a m x:Nat}(h1:a<=x)(h2:x<a+m)(h:S x=true):pV S a m=false:=by
 cases e:pV S a m
 ·rfl
 ·rw[VG.1 e x h1 h2]at h;cases h
def y9 (n:Nat)(S:Nat->Bool)(a m:Int):Int:=if Zt n a m then(if pV S a.toNat m.toNat then 0 else 9)else 1
def Q0 (n:Nat)(S:Nat->Bool)(a m:Int):Nat->Bool:=if Zt n a m&&pV S a.toNat m.toNat then dE S a.toNat (a.toNat+m.toNat)else S
theorem TI {n:Nat}{a m:Int}(h:Zt n a m=true):∃x y:Nat,a=(x:Int)/\m=(y:Int)/\1<=y/\x+y<=n:=by
 simp only[Zt,zE,zU]at h;exact⟨a.toNat,m.toNat,O,O,O,O⟩
theorem re (h:BH U p n S sb ms)(a m:Int){R:aN}
 (hR:∀σ',Ext (· ∈ ms) U σ'->BH σ' p n (Q0 n S a m) sb ms->R (y9 n S a m) σ'):Yg.c (aW p) a m U R:=by
 refine Yg.o ?_;unfold Yg.v;have B:=h.n2;refine Nr h a m (λd=>cE rfl ?_) (λd=>cD rfl ?_)
 ·obtain⟨x,y,rfl,rfl,G,w⟩:=TI d;refine Qg (a:=bO) (λt s=>∃z:Nat,t=(z:Int)/\x<=z/\s=U/\∀u,x<=u->u<z->S u=false) (λt _=>x+y-t.toNat) ⟨x,rfl,O,rfl,λu _ _=>O⟩ ?_;rintro t s ⟨z,rfl,C,rfl,g⟩;refine cS (m:=x+y) O O ?_;refine cQ (λD=>Sr h _ ?_) (λF=>?_)
  ·have e:lj S (z:Int)=S z:=by simp[lj]
   rw[e];cases hs:S z
   ·refine cE rfl (cS (m:=z+1) O O ⟨⟨z+1,rfl,O,rfl,λu r E=>?_⟩,O⟩);by_cases e:u=z
    ·rw[e];exact hs
    ·exact g u r O
   ·refine cD rfl ?_;have j:=Su (m:=y) C O hs;have:=hR s (Ext.refl _ _);simp only[y9,Q0,d,dD,j,tW,zR,zZ,zp]at this;exact this h
  ·have b:∀u,x<=u->u<x+y->S u=false:=λu r E=>g u r O;have j:=VG.2 b;refine AX h w b λr e1 A=>?_;have:=hR r e1;simp only[y9,Q0,d,dD,j,u9,zR]at this;exact this A
 ·have:=hR U (Ext.refl _ _);simp only[y9,Q0,d,ux,zZ,zp]at this;exact this h
end Go.Bu
namespace Go.Ar
open Go.Bu
def uT (n:Nat)(h:Int):Bool:=decide (0<=h)&&decide (h<((n/16:Nat):Int))
def kB (st:List Nat)(h:Int):Int:=if uT st.length h then(if st.getD (16*h.toNat) 0=0 then 0 else 5)else 1
def iQ (st:List Nat)(h:Int):List Nat:=if kB st h=0 then gA st (16*h.toNat) (16*h.toNat+16) 3 else st
def ve (st:List Nat)(a m:Nat)(fr:List Nat):Bool:=((st.drop a).take m).all fr.contains
def oC (st:List Nat)(a m:Int)(fr:List Nat):Int:=if Zt st.length a m then(if ve st a.toNat m.toNat fr then 0 else 5)else 1
def UI (st:List Nat)(a m:Int)(v:Nat)(fr:List Nat):List Nat:=if oC st a m fr=0 then gA st a.toNat (a.toNat+m.toNat) v else st
def Ln (st:List Nat)(h:Nat):Nat:=if tx st (16*h) (16*h+16) 1=0 then 0 else if 0<tx st (16*h) (16*h+16) 3 then 1 else 2
def Α (st:List Nat)(k:Nat):List Nat:=(List.range (st.length/16)).filter λh=>st.getD (16*h) 0 != 0&&Ln st h==k
def used (st:List Nat)(h:Nat):Nat:=tx st (16*h) (16*h+16) 1
structure Sp where
 st:List Nat
 wd:Nat->Int
 pk:Nat
def Sp.set (s:Sp)(a m v:Nat):Sp:={s with st:=gA s.st a (a+m) v,wd:=λw=>if a*32<=w/\w<(a+m)*32 then 0 else s.wd w}
def fA (s:Sp)(a m:Int):Int:=if Zt s.st.length a m then(if((s.st.drop a.toNat).take m.toNat).any (· != 0)then 5 else 0)else 1
def fW (s:Sp)(a m:Int):Sp:=if fA s a m=0 then s.set a.toNat m.toNat 1 else s
def eO (s:Sp)(x:Int):Int:=if x<0\/x%8≠0 then 7 else if s.st.getD (x.toNat/256) 0=0 then 7 else 0
def ny (s:Sp)(w:Nat)(v:Int):Sp:=
 {st:=s.st.set (w/32) 2,wd:=λu=>if u=w then v else s.wd u,pk:=if s.st.getD (w/32) 0=2 then s.pk else max s.pk ((s.st.set (w/32) 2).count 2)}
def ZM (s:Sp)(x v:Int):Sp:=if eO s x=0 then ny s (x.toNat/8) v else s
end Go.Ar
namespace Go.Ar
structure Li where
 os:List Int
 lim:Nat
 low:Nat
 deriving DecidableEq
def ir:Li:=⟨[],1,0⟩
structure fL (l:Li):Prop where
 low:l.low<=l.os.length
 many:l.os.length<=256
 lim:l.lim<=128
 ns:1<=l.lim
def gG (m:Nat)(l:Li):List Int×Li:=(l.os.take m,{l with os:=l.os.drop m,low:=min l.low (l.os.length-m)})
def mJ (c:cA)(l:Li):Li:=if l.lim<c.batch then{l with lim:=l.lim+1}else l
def Ky (c:cA)(l:Li):Option Int×Li:=match l.os.getLast? with
 | none=>(none,if l.lim<c.batch then{l with lim:=l.lim+1}else{l with lim:=min (l.lim+c.batch) 128})
 | some x=>(some x,{l with os:=l.os.dropLast,low:=min l.low (l.os.length-1)})
def oz (c:cA)(l:Li):Nat:=min l.lim c.batch
def eB (xs:List Int)(l:Li):Li:=if l.os.length+xs.length>256 then l else{l with os:=l.os++xs}
def dL (c:cA)(x:Int)(l:Li):List Int×Li:=
 if l.os.length+1>256 then([],l)
 else if l.os.length+1<=l.lim then([],eB [x] l)
 else gG (min c.batch (l.os.length+1)) (mJ c (eB [x] l))
def Vk (c:cA)(l:Li):List Int×Li:=
 ((gG ((l.low+1)/2) l).1,{os:=(gG ((l.low+1)/2) l).2.os,lim:=if l.lim>c.batch then max (l.lim-c.batch) c.batch else l.lim,low:=(gG ((l.low+1)/2) l).2.os.length})
def ZY (_:cA)(l:Li):List Int×Li:=gG l.os.length l
abbrev Bt:=Nat×List Int
def Kx (f:cA->Li->List Int×Li)(tb:List cA)(ls:List Li):List Bt:=(List.range tb.length).filterMap λk=>match tb[k]?,ls[k]? with
 | some c,some l=>if(f c l).1=[]then none else some (k,(f c l).1)
 | _,_=>none
def Kr (f:cA->Li->List Int×Li)(tb:List cA)(ls:List Li):List Li:=List.zipWith (λc l=>(f c l).2) tb ls
def Ko (tb:List cA)(ls:List Li):Nat:=((tb.zip ls).map λx=>x.1.size*x.2.os.length).sum
theorem fL.nil:fL ir:=⟨zD _,by decide,by decide,by decide⟩
theorem Ac {m:Nat}{l:Li}(h:fL l):fL (gG m l).2:=by
 have a:=h.low;have b:=h.many;refine⟨?_,?_,h.lim,h.ns⟩
 ·simp only[gG,kg];omega
 ·simp only[gG,kg];omega
theorem EG {c:cA}{l:Li}(hc:c.ok)(h:fL l):fL (Ky c l).2:=by
 have a:=h.low;have b:=h.many;have d:=h.lim;have e:=h.ns;unfold cA.ok at hc;unfold Ky;split
 ·split
  ·exact⟨a,b,by simp only;omega,by simp only;omega⟩
  ·exact⟨a,b,by simp only;omega,by simp only;omega⟩
 ·exact⟨by simp only[AY];omega,by simp only[AY];omega,d,e⟩
theorem yC {xs:List Int}{l:Li}(h:fL l):fL (eB xs l):=by
 have a:=h.low;have b:=h.many;unfold eB;split
 ·exact h
 ·exact⟨by simp only[zM];omega,by simp only[zM];omega,h.lim,h.ns⟩
theorem FF {c:cA}{l:Li}(hc:c.ok)(h:fL l):fL (mJ c l):=by
 have a:=h.lim;unfold cA.ok at hc;unfold mJ;split
 ·exact⟨h.low,h.many,by simp only;omega,by simp only;omega⟩
 ·exact h
theorem Sc {c:cA}{x:Int}{l:Li}(hc:c.ok)(h:fL l):fL (dL c x l).2:=by
 unfold dL;split
 ·exact h
 ·split
  ·exact yC h
  ·exact Ac (FF hc (yC h))
theorem ED {c:cA}{l:Li}(hc:c.ok)(h:fL l):fL (Vk c l).2:=by
 have a:=(Ac (m:=(l.low+1)/2) h).many;have b:=h.lim;have d:=h.ns;unfold cA.ok at hc;refine⟨zD _,a,?_,?_⟩<;>simp only[Vk]<;>split<;>omega
theorem T0 {c:cA}{l:Li}(h:fL l):fL (ZY c l).2:=Ac h
theorem SW (c:cA)(hc:c.ok):Vk c ir=([],ir):=by
 unfold cA.ok at hc;simp[Vk,ir,gG];omega
theorem Pq (c:cA):ZY c ir=([],ir):=by simp[ZY,ir,gG]
def gK.rem (t:gK):gK:={low:=min t.low (t.bs.length-1),bs:=t.bs.dropLast}
def gK.tick (t:gK):gK:={low:=(t.bs.drop ((t.low+1)/2)).length,bs:=t.bs.drop ((t.low+1)/2)}
def gK.out (t:gK):List (List Int):=t.bs.take ((t.low+1)/2)
end Go.Ar
namespace Go.Proofs
open Go.Vc
set_option maxRecDepth 100000
def Qt.h:Hn:=.q .o1 (.q .o3 .l)
def Qt.v (a:Hp)(b:Option Addr->Hp->Prop):Prop:=aV #[.bool true,.pointer none,.pointer none,.pointer none,.pointer none,.pointer none,.pointer none,.pointer none,.pointer none,.pointer none,.pointer none,.pointer none,.pointer none,.pointer none,.pointer none,.pointer none,.pointer none] 352 a λc d=>b (some c) d
theorem Qt.o {a b}(c:Qt.v a b):Qt.c a b:=Wa Tryz.func209 (x:=Qt.h) (R0 c)
def X1.h:Hn:=.q .o1 (.q .o5 .l)
def X1.v (a:R2)(b c:Int)(d:Hp)(e:aN):Prop:=YQ.c a b c 0 d λf g=>e f g
theorem X1.o {a b c d e}(f:X1.v a b c d e):X1.c a b c d e:=Wa Tryz.func244 (x:=X1.h) (R0 f)
def XO.h:Hn:=.q .o1 (.q (.cW (.seq [.op,.op,.op,.cR true 4 (RI.ops 4),.op])) .l)
def XO.v (a:R2)(b:Hp)(c:aO):Prop:=bV (λd e=>c d e) λf=>If (!a.isNone) (bH a 0 b λh=>f h b) (f false b)
theorem XO.o {a b c}(d:XO.v a b c):XO.c a b c:=Wa Tryz.func270 (x:=XO.h) (R0 d)
def YQ.h:Hn:=.q .o1 (.q (.k (.q .o4 (.c .aM (.q (.cW (.seq [.op,.op,.op,.cR false 2 [.op,.op],.op,.cR false 2 [.op,.op],.op,.cR false 4 (RI.ops 4),.op])) .aK)))) (.q (.q .o2 (.k (.loop [(9,.I)] (.q (.q .o5 (.c .l .l)) (.q (.k .o4) .o3))))) .aM))
def YQ.v (a:R2)(b c d:Int)(e:Hp)(f:aN):Prop:=XO.c a e λg h=>If (!g) (f 5 h) (bV (λi j=>bV (λk l=>bV (λm n=>If m (f 1 n) (Ya [bO] (λo=>o b n) λp (q:Int) r=>bM (b+c) λs=>If (q<s) (Zk.c a q d r λt=>bM (q+1) λu=>p u t) (f 0 r))) λv=>If k (v true l) (bM (1024-b) λw=>v (decide (c>w)) l)) λx=>If i (x true j) (x (decide (b>1024)) j)) λy=>If (b<0) (y true h) (y (decide (c<1)) h))
theorem YQ.o {a b c d e f}(g:YQ.v a b c d e f):YQ.c a b c d e f:=Wa Tryz.func272 (x:=YQ.h) (R0 g)
def Yr.h:Hn:=.q .o1 (.q (.q (.cW (.seq [.op,.op,.op,.cR true 6 [.op,.op,.op,.cR false 2 [.op,.op]]])) .aK) (.q .o6 .l))
def Yr.v (a:R2)(b c d:Int)(e:Hp)(f:aN):Prop:=XO.c a e λg h=>bV (λi j=>If i (f 1 j) (YQ.c a b c d j λk l=>f k l)) λm=>If g (bV (λn o=>m n o) λp=>If (d<1) (p true h) (p (decide (d>1073741824)) h)) (m false h)
theorem Yr.o {a b c d e f}(g:Yr.v a b c d e f):Yr.c a b c d e f:=Wa Tryz.func289 (x:=Yr.h) (R0 g)
def Zn.h:Hn:=.q .o1 (.q (.q (.cW (.seq [.op,.op,.op,.op,.cR false 2 [.op,.op],.op,.cR false 2 [.op,.op]])) .aK) (.q .o9 (.q (.q (.cW (.seq [.op,.op,.op,.cR false 8 (RI.ops 8)])) .aK) (.q (.o 13) .l))))
def Zn.v (a:R2)(b:Int)(c:Hp)(d:aN):Prop:=XO.c a c λe f=>bV (λg h=>bV (λi j=>If i (d 0 j) (Nz 8<|bM (b.tdiv 8) λk=>Nz 8<|bM (k.tdiv 8) λl=>bX a λm=>nN (m.add 1) 16 l 1 λn=>fS n j λo=>bV (λp q=>If p (d 0 q) (Nz 8<|bM (b.tdiv 8) λr=>Nz 8 <| bX o λs=>nN s 8 (r.tmod 8) 1 λt=>fS t q λu=>Nz 8 <| bX u λv=>nN v 8 (b.tmod 8) 1 λw=>bN w q λx=>d x q)) λy=>If o.isNone (y true j) (Nz 8<|bM (b.tdiv 8) λz=>Nz 8 <| bX o λaa=>nN aa 8 (z.tmod 8) 1 λab=>fS ab j λac=>y ac.isNone j))) λad=>If g (ad true h) (ad (decide (b≥1024)) h)) λae=>If (!e) (ae true f) (ae (decide (b<0)) f)
theorem Zn.o {a b c d}(e:Zn.v a b c d):Zn.c a b c d:=Wa Tryz.func295 (x:=Zn.h) (R0 e)
def Zk.h:Hn:=.q .o9 (.q .o8 (.q .o7 (.kj [] (.q .o5 (.c .o7 .l)) (.q .o5 (.c .o8 .l)))))
def Zk.v (a:R2)(b c:Int)(d:Hp)(e:aP):Prop:=Nz 8<|bM (b.tdiv 8) λf=>Nz 8<|bM (f.tdiv 8) λg=>bX a λh=>nN (h.add 1) 16 g 1 λi=>WM.c (some i) d λj k=>Nz 8<|bM (b.tdiv 8) λl=>Nz 8 <| bX j λm=>nN m 8 (l.tmod 8) 1 λn=>WO.c (some n) k λo p=>Nz 8 <| bX o λq=>nN q 8 (b.tmod 8) 1 λr=>dU r (.I c) p λs=>Jn [] (λt=>bX j λu=>aY u 0 t λv=>aY u 1 t λw=>aY u 2 t λx=>aY u 3 t λy=>aY u 4 t λz=>aY u 5 t λaa=>aY u 6 t λab=>aY u 7 t λac=>If (v.isNone&&(w.isNone&&(x.isNone&&(y.isNone&&(z.isNone&&(aa.isNone&&(ab.isNone&&(ac.isNone&&true)))))))) (Nz 8<|bM (b.tdiv 8) λad=>Nz 8<|bM (ad.tdiv 8) λae=>bX a λaf=>nN (af.add 1) 16 ae 1 λag=>dU ag (.pointer none) t λah=>e ah) (e t)) λai=>bX o λaj=>aQ aj 0 s λak=>aQ aj 1 s λal=>aQ aj 2 s λam=>aQ aj 3 s λan=>aQ aj 4 s λao=>aQ aj 5 s λap=>aQ aj 6 s λaq=>aQ aj 7 s λar=>If ((ak==0)&&((al==0)&&((am==0)&&((an==0)&&((ao==0)&&((ap==0)&&((aq==0)&&((ar==0)&&true)))))))) (Nz 8<|bM (b.tdiv 8) λau=>Nz 8 <| bX j λav=>nN av 8 (au.tmod 8) 1 λaw=>dU aw (.pointer none) s λax=>ai ax) (ai s)
theorem Zk.o {a b c d e}(f:Zk.v a b c d e):Zk.c a b c d e:=Wa Tryz.func312 (x:=Zk.h) (R0 f)
def WM.h:Hn:=.q .o1 (.kj [] (.q .o4 (.c .o4 .l)) (.q .o4 .l))
def WM.v (a:R2)(b:Hp)(c:Option Addr->Hp->Prop):Prop:=Jn [] (λd=>bX a λe=>fS e d λf=>c f d) λg=>bX a λh=>fS h b λi=>If i.isNone (aV #[.pointer none,.pointer none,.pointer none,.pointer none,.pointer none,.pointer none,.pointer none,.pointer none] 402 b λj k=>bX a λl=>dU l (.pointer (some j)) k λm=>g m) (g b)
theorem WM.o {a b c}(d:WM.v a b c):WM.c a b c:=Wa Tryz.func337 (x:=WM.h) (R0 d)
def WO.h:Hn:=.q .o1 (.kj [] (.q .o4 (.c .o4 .l)) (.q .o4 .l))
def WO.v (a:R2)(b:Hp)(c:Option Addr->Hp->Prop):Prop:=Jn [] (λd=>bX a λe=>fS e d λf=>c f d) λg=>bX a λh=>fS h b λi=>If i.isNone (aV #[.I 0,.I 0,.I 0,.I 0,.I 0,.I 0,.I 0,.I 0] 406 b λj k=>bX a λl=>dU l (.pointer (some j)) k λm=>g m) (g b)
theorem WO.o {a b c}(d:WO.v a b c):WO.c a b c:=Wa Tryz.func338 (x:=WO.h) (R0 d)
end Go.Proofs
namespace Go.Ar
open Go Go.Vc Go.Proofs
open Go.Bu (Zt)
variable {U:Hp}{F:Rg}{p:Nat}{M Lf:Nat->Option Nat}{ow:Nat->Nat}
def eZ {α:Type}(f:Nat->α)(k:Nat)(v:α):Nat->α:=λi=>if i=k then v else f i
theorem ZL {α:Type}(f:Nat->α)(k:Nat)(v:α):eZ f k v k=v:=by simp[eZ]
theorem QD {α:Type}(f:Nat->α){k i:Nat}(v:α)(h:i≠k):eZ f k v i=f i:=by simp[eZ,h]
theorem KE {α:Type}(f:Nat->α)(n k:Nat)(v:α):((List.range n).map f).set k v=(List.range n).map (eZ f k v):=by
 apply zo;intro i;by_cases hik:i=k
 ·subst hik;rcases kb i n with h|h
  ·rw[zN (by simpa using h)];simp[nt h,eZ]
  ·rw[zW (by simpa using h),zW (by simpa using h)]
 ·rw[zg (Ne.symm hik)];simp only[za];rcases kb i n with h|h
  ·simp[nt h,eZ,hik]
  ·simp[zW (show(List.range n).length<=i by simpa using h)]
theorem KC {α:Type}(f:Nat->α){n k:Nat}(h:k<n):((List.range n).map f)[k]?=some (f k):=by simp[nt h]
def ptr (o:Option Nat):Value:=.pointer (o.map λq=>⟨q,0,none⟩)
structure jW (U:Hp) (F:Rg) (p:Nat) (M Lf:Nat->Option Nat) (ow:Nat->Nat):Prop where
 hd:bZ U p (.bool true::(List.range 16).map λi=>ptr (M i))
 jf:∀i q,i<16->M i=some q->bZ U q ((List.range 8).map λj=>ptr (Lf (8*i+j)))
 kR:∀i,i<16->M i=none->∀j,j<8->Lf (8*i+j)=none
 leaf:∀k q,k<128->Lf k=some q->bZ U q ((List.range 8).map λj=>.int .i64 ((ow (8*k+j):Nat):Int))
 iI:∀k,k<128->Lf k=none->∀j,j<8->ow (8*k+j)=0
 fp:F p
 fm:∀i q,i<16->M i=some q->F q/\q≠p
 fl:∀k q,k<128->Lf k=some q->F q/\q≠p
 mm:∀i j q,i<16->j<16->M i=some q->M j=some q->i=j
 ll:∀i j q,i<128->j<128->Lf i=some q->Lf j=some q->i=j
 ml:∀i k q,i<16->k<128->M i=some q->Lf k≠some q
def je (U:Hp)(F:Rg)(p:Nat)(ow:Nat->Nat):Prop:=∃M Lf,jW U F p M Lf ow
theorem jW.move {σ':Hp}{G:Rg}(h:jW U F p M Lf ow)(hb:∀b,b<U.size->F b->σ'[b]?=U[b]?)(hg:∀b,b<U.size->F b->G b):jW σ' G p M Lf ow:=by
 have j:∀{b:Nat} {cs:List Value},bZ U b cs->F b->bZ σ' b cs:=by
  rintro b cs ⟨e,m⟩ r;exact⟨e,(hb b (bZ.lt ⟨e,m⟩) r).trans m⟩
 exact⟨j h.hd h.fp,λi q d a=>j (h.jf i q d a) (h.fm i q d a).1,h.kR,λk q g a=>j (h.leaf k q g a) (h.fl k q g a).1,h.iI,hg p h.hd.lt h.fp,
  λi q d a=>⟨hg q (h.jf i q d a).lt (h.fm i q d a).1,(h.fm i q d a).2⟩,λk q g a=>⟨hg q (h.leaf k q g a).lt (h.fl k q g a).1,(h.fl k q g a).2⟩,h.mm,h.ll,h.ml⟩
theorem je.loc:dM λU F=>je U F p ow:=λU g F G ⟨M,Lf,h⟩ i e=>⟨M,Lf,h.move (λb d a=>(e b d a).2) λb d a=>(e b d a).1⟩
theorem je.congr {ow':Nat->Nat}(h:je U F p ow)(he:∀x,x<1024->ow x=ow' x):je U F p ow':=by
 obtain⟨M,Lf,h⟩:=h;refine⟨M,Lf,h.hd,h.jf,h.kR,λk q d b=>?_,λk d b j a=>?_,h.fp,h.fm,h.fl,h.mm,h.ll,h.ml⟩
 ·have:=h.leaf k q d b;have e:((List.range 8).map λj=>Value.int .i64 ((ow (8*k+j):Nat):Int))=(List.range 8).map λj=>Value.int .i64 ((ow' (8*k+j):Nat):Int):=by
   apply ke;intro j a;rw[zh]at a;rw[he _ O]
  rw[←e];exact this
 ·rw[←he _ O];exact h.iI k d b j a
theorem Ao (h:je U F p ow){R:aO}(hR:R true U):XO.c (aW p) U R:=by
 refine XO.o ?_;unfold XO.v;obtain⟨M,Lf,h⟩:=h;exact bV.intro (cD rfl (aG (h.hd.rB rfl hR)))
theorem qC {a:Addr}{n i sz:Nat}{K:Addr->Prop}(hi:i<n)(hK:K (a.add (i*sz))):nN a n (i:Int) sz K:=⟨O,O,by simpa using hK⟩
theorem jW.rM (h:jW U F p M Lf ow){i:Nat}(hi:i<16){K:Option Addr->Prop}(hK:K ((M i).map λq=>⟨q,0,none⟩)):fS ⟨p,1+i,none⟩ U K:=by
 refine h.hd.qd ?_ hK;rw[Nat.add_comm,yu,KC _ hi];rfl
theorem jW.rL (h:jW U F p M Lf ow){i j q:Nat}(hi:i<16)(hq:M i=some q)(hj:j<8){K:Option Addr->Prop}(hK:K ((Lf (8*i+j)).map λq=>⟨q,0,none⟩)):fS ⟨q,j,none⟩ U K:=
 (h.jf i q hi hq).qd (KC _ hj) hK
theorem jW.rN (h:jW U F p M Lf ow){k j q:Nat}(hk:k<128)(hq:Lf k=some q)(hj:j<8){K:Int->Prop}(hK:K ((ow (8*k+j):Nat):Int)):gJ .i64 ⟨q,j,none⟩ U K:=
 (h.leaf k q hk hq).tZ (KC _ hj) hK
def qp (ow:Nat->Nat)(x:Int):Nat:=if 0<=x/\x<1024 then ow x.toNat else 0
theorem Mp (h:je U F p ow)(x:Int){R:aN}(hR:R ((qp ow x:Nat):Int) U):Zn.c (aW p) x U R:=by
 refine Zn.o ?_;unfold Zn.v;have s:=h;obtain⟨M,Lf,h⟩:=h;refine Ao s (bV.intro (cE rfl (bV.intro (cQ (λw=>cD rfl ?_) λw=>?_))))
 ·have:qp ow x=0:=by unfold qp;rw[zB O]
  rw[this]at hR;exact hR
 refine cQ (λz=>?_) λu=>?_
 ·have:qp ow x=0:=by unfold qp;rw[zB O]
  rw[this]at hR;exact hR
 obtain⟨y,rfl⟩:=zc (show 0<=x by omega);have A:y<1024:=by omega
 have j:qp ow (y:Int)=ow y:=by unfold qp;rw[zC O];rfl
 rw[j]at hR;have b:((y:Int).tdiv 8)=((y/8:Nat):Int):=by rw[YK O];simp
 have m:(((y/8:Nat):Int).tdiv 8)=((y/8/8:Nat):Int):=by rw[YK O];simp
 have e:(((y/8:Nat):Int).tmod 8)=((y/8%8:Nat):Int):=by rw[Kg O];simp
 have i:((y:Int).tmod 8)=((y%8:Nat):Int):=by rw[Kg O];simp
 have d:8*(y/8/8)+y/8%8=y/8:=by omega
 have a:8*(y/8)+y%8=y:=by omega
 refine nz aB (cS b O (nz aB (cS m O (aG ?_))));refine qC O ?_;rw[add_lit,add_lit,zH,nH];refine h.rM O (bV.intro ?_);cases hM:M (y/8/8)with
 | none=>
  refine cD rfl (cD rfl ?_);have g:=h.kR _ O hM (y/8%8) O;rw[d]at g;have:=h.iI _ O g (y%8) O;rw[a]at this;rw[this]at hR;exact hR
 | some q=>
  refine cE rfl (nz aB (cS b O (nz aB (aG ?_))));rw[e];refine qC O ?_;rw[add_lit,zH,nH];refine h.rL O hM O ?_;rw[d];cases hL:Lf (y/8)with
  | none=>
   refine cD rfl ?_;have:=h.iI _ O hL (y%8) O;rw[a]at this;rw[this]at hR;exact hR
  | some r=>
   refine cE rfl (nz aB (cS b O (nz aB (aG ?_))));rw[e];refine qC O ?_;rw[add_lit,zH,nH];refine h.rL O hM O ?_;rw[d,hL];refine nz aB (aG ?_);rw[i];refine qC O ?_;rw[add_lit,zH,nH];refine h.rN O hL O ?_;rw[a];exact hR
theorem OA {R:Option Addr->Hp->Prop}(hR:∀σ' p,bL U σ'->U.size<=p->je σ' (λb=>U.size<=b) p (λ_=>0)->R (some ⟨p,0,none⟩) σ'):Qt.c U R:=by
 refine Qt.o ?_;unfold Qt.v;refine nw (cs:=[.bool true,.pointer none,.pointer none,.pointer none,.pointer none,.pointer none,.pointer none,.pointer none,.pointer none,.pointer none,.pointer none,.pointer none,.pointer none,.pointer none,.pointer none,.pointer none,.pointer none]) λv d e a=>?_;refine hR v _ e (zD _) ⟨λ_=>none,λ_=>none,a,?_,?_,?_,?_,zD _,?_,?_,?_,?_,?_⟩<;>intros<;>simp_all
theorem PX (h:jW U F p M Lf ow){i:Nat}(hi:i<16){R:Option Addr->Hp->Prop}
 (hR:∀σ' M' q,Ext F U σ'->M' i=some q->jW σ' (Grow F U) p M' Lf ow->R (some ⟨q,0,none⟩) σ'):WM.c (some ⟨p,1+i,none⟩) U R:=by
 refine WM.o ?_;unfold WM.v;refine Jn.intro (aG (h.rM hi ?_));cases hM:M i with
 | some q=>exact cE rfl (aG (h.rM hi (by rw[hM];exact hR U M q (Ext.refl _ _) hM (h.move (λ_ _ _=>rfl) λ_ _ B=>.inl B))))
 | none=>
  refine cD rfl (nw (cs:=[.pointer none,.pointer none,.pointer none,.pointer none,.pointer none,.pointer none,.pointer none,.pointer none]) λD E e1 x=>aG ?_);have C:=h.hd.lt;refine(e1.bW h.hd id).s0 aE λy o2 u=>?_;have r:(Value.bool true::(List.range 16).map λi=>ptr (M i)).set (1+i) (.pointer (some ⟨U.size,0,none⟩))=.bool true::(List.range 16).map λj=>ptr (eZ M i (some U.size) j):=by
   rw[Nat.add_comm,rZ,KE]
   congr 1
   apply ke;intro j _;simp only[eZ];split<;>rfl
  rw[r]at u;have s:∀{b:Nat} {cs:List Value},bZ U b cs->b≠p->bZ y b cs:=λz w=>WH o2 (e1.bW z id) w;have A:jW y (Grow F U) p (eZ M i (some U.size)) Lf ow:=by
   refine⟨u,λj q g a=>?_,λj g a=>?_,λk q d a=>s (h.leaf k q d a) (h.fl k q d a).2,h.iI,.inl h.fp,λj q g a=>?_,λk q d a=>⟨.inl (h.fl k q d a).1,(h.fl k q d a).2⟩,λj k q g d m e=>?_,h.ll,λj k q g d a=>?_⟩
   ·by_cases hji:j=i
    ·subst hji;rw[ZL]at a;cases a;have w:=h.kR j g hM;have:((List.range 8).map λk=>ptr (Lf (8*j+k)))=[.pointer none,.pointer none,.pointer none,.pointer none,.pointer none,.pointer none,.pointer none,.pointer none]:=by
      have:((List.range 8).map λk=>ptr (Lf (8*j+k)))=(List.range 8).map λ_=>Value.pointer none:=by
       apply ke;intro k d;rw[zh]at d;rw[w k d];rfl
      rw[this];rfl
     rw[this];exact WH o2 x O
    ·rw[QD _ _ hji]at a;exact s (h.jf j q g a) (h.fm j q g a).2
   ·by_cases hji:j=i
    ·subst hji;rw[ZL]at a;cases a
    ·rw[QD _ _ hji]at a;exact h.kR j g a
   ·by_cases hji:j=i
    ·subst hji;rw[ZL]at a;cases a;exact⟨.inr (zD _),O⟩
    ·rw[QD _ _ hji]at a;exact⟨.inl (h.fm j q g a).1,(h.fm j q g a).2⟩
   ·by_cases hji:j=i
    ·by_cases hki:k=i
     ·omega
     ·subst hji;rw[ZL]at m;cases m;rw[QD _ _ hki]at e;have:=(h.jf k _ d e).lt;omega
    ·rw[QD _ _ hji]at m;by_cases hki:k=i
     ·subst hki;rw[ZL]at e;cases e;have:=(h.jf j _ g m).lt;omega
     ·rw[QD _ _ hki]at e;exact h.mm j k q g d m e
   ·by_cases hji:j=i
    ·subst hji;rw[ZL]at a;cases a;intro hl;have:=(h.leaf k _ d hl).lt;omega
    ·rw[QD _ _ hji]at a;exact h.ml j k q g d a
  refine aG (A.rM hi ?_);rw[ZL];exact hR y _ U.size (e1.to.trans (o2.ext.sub λb z=>z▸h.fp)) (ZL _ _ _) A
theorem LZ (h:jW U F p M Lf ow){i j q:Nat}(hi:i<16)(hj:j<8)(hq:M i=some q){R:Option Addr->Hp->Prop}
 (hR:∀σ' L' r,Ext F U σ'->L' (8*i+j)=some r->jW σ' (Grow F U) p M L' ow->R (some ⟨r,0,none⟩) σ'):WO.c (some ⟨q,j,none⟩) U R:=by
 refine WO.o ?_;unfold WO.v;have S:8*i+j<128:=by omega
 refine Jn.intro (aG (h.rL hi hq hj ?_));cases hL:Lf (8*i+j)with
 | some r=>exact cE rfl (aG (h.rL hi hq hj (by rw[hL];exact hR U Lf r (Ext.refl _ _) hL (h.move (λ_ _ _=>rfl) λ_ _ G=>.inl G))))
 | none=>
  refine cD rfl (nw (cs:=[.int .i64 0,.int .i64 0,.int .i64 0,.int .i64 0,.int .i64 0,.int .i64 0,.int .i64 0,.int .i64 0]) λW X e1 J=>aG ?_);have P:=h.jf i q hi hq;have V:=P.lt;have G:=h.fm i q hi hq;refine(e1.bW P id).s0 aE λK o2 z=>?_;have y:∀{b:Nat} {cs:List Value},bZ U b cs->b≠q->bZ K b cs:=λN H=>WH o2 (e1.bW N id) H;have Q:jW K (Grow F U) p M (eZ Lf (8*i+j) (some U.size)) ow:=by
   refine⟨y h.hd (Ne.symm G.2),λm x g d=>?_,λm g d C L=>?_,λk r a s=>?_,λk a s=>?_,.inl h.fp,λm x g d=>⟨.inl (h.fm m x g d).1,(h.fm m x g d).2⟩,λk r a s=>?_,h.mm,λk E r A B w u=>?_,λm k x g a d=>?_⟩
   ·by_cases hii:m=i
    ·subst hii;rw[hq]at d;cases d;rw[KE]at z;have:((List.range 8).map (eZ (λj=>ptr (Lf (8*m+j))) j (.pointer (some ⟨U.size,0,none⟩))))=(List.range 8).map λk=>ptr (eZ Lf (8*m+j) (some U.size) (8*m+k)):=by
      apply ke;intro k _;simp only[eZ];by_cases hkj:k=j
      ·subst hkj;simp[ptr]
      ·have:¬8*m+k=8*m+j:=by omega
       simp[hkj,this]
     rw[this]at z;exact z
    ·have D:x≠q:=λe=>by subst e;exact hii (h.mm m i x g hi d hq)
     have:=y (h.jf m x g d) D;have e:((List.range 8).map λk=>ptr (eZ Lf (8*i+j) (some U.size) (8*m+k)))=(List.range 8).map λk=>ptr (Lf (8*m+k)):=by
      apply ke;intro k a;rw[zh]at a;rw[QD _ _ O]
     rw[e];exact this
   ·have D:m≠i:=λe=>by subst e;rw[hq]at d;cases d
    rw[QD _ _ O];exact h.kR m g d C L
   ·by_cases hkk:k=8*i+j
    ·subst hkk;rw[ZL]at s;cases s;have H:=h.iI _ S hL;have:((List.range 8).map λC=>Value.int .i64 ((ow (8*(8*i+j)+C):Nat):Int))=[.int .i64 0,.int .i64 0,.int .i64 0,.int .i64 0,.int .i64 0,.int .i64 0,.int .i64 0,.int .i64 0]:=by
      have:((List.range 8).map λC=>Value.int .i64 ((ow (8*(8*i+j)+C):Nat):Int))=(List.range 8).map λ_=>Value.int .i64 0:=by
       apply ke;intro k a;rw[zh]at a;rw[H k a];rfl
      rw[this];rfl
     rw[this];exact WH o2 J O
    ·rw[QD _ _ hkk]at s;exact y (h.leaf k r a s) λe=>by subst e;exact h.ml i k r hi a hq s
   ·by_cases hkk:k=8*i+j
    ·subst hkk;rw[ZL]at s;cases s
    ·rw[QD _ _ hkk]at s;exact h.iI k a s
   ·by_cases hkk:k=8*i+j
    ·subst hkk;rw[ZL]at s;cases s;have:=h.hd.lt;exact⟨.inr (zD _),O⟩
    ·rw[QD _ _ hkk]at s;exact⟨.inl (h.fl k r a s).1,(h.fl k r a s).2⟩
   ·by_cases e1':k=8*i+j
    ·by_cases e2':E=8*i+j
     ·omega
     ·subst e1';rw[ZL]at w;cases w;rw[QD _ _ e2']at u;have:=(h.leaf E _ B u).lt;omega
    ·rw[QD _ _ e1']at w;by_cases e2':E=8*i+j
     ·subst e2';rw[ZL]at u;cases u;have:=(h.leaf k _ A w).lt;omega
     ·rw[QD _ _ e2']at u;exact h.ll k E r A B w u
   ·by_cases hkk:k=8*i+j
    ·subst hkk;rw[ZL];intro e;cases e;have:=(h.jf m _ g d).lt;omega
    ·rw[QD _ _ hkk];exact h.ml m k x g a d
  refine aG (Q.rL hi hq hj ?_);rw[ZL];exact hR K _ U.size (e1.to.trans (o2.ext.sub λb N=>N▸G.1)) (ZL _ _ _) Q
theorem N8 (h:jW U F p M Lf ow){k r j no:Nat}(hk:k<128)(hr:Lf k=some r)(hj:j<8){σ':Hp}(ho:QR U σ' r)(hb:bZ σ' r (((List.range 8).map λj=>Value.int .i64 ((ow (8*k+j):Nat):Int)).set j (.int .i64 (no:Int)))) :
 jW σ' F p M Lf (eZ ow (8*k+j) no):=by
 refine⟨WH ho h.hd (Ne.symm (h.fl k r hk hr).2),λi q y x=>WH ho (h.jf i q y x) λe=>by subst e;exact h.ml i k q y hk x hr,h.kR,λd s g b=>?_,λd g b u w=>?_,h.fp,h.fm,h.fl,h.mm,h.ll,h.ml⟩
 ·by_cases hkk:d=k
  ·subst hkk;rw[hr]at b;cases b;rw[KE]at hb;have:((List.range 8).map (eZ (λj=>Value.int .i64 ((ow (8*d+j):Nat):Int)) j (.int .i64 (no:Int))))=(List.range 8).map λu=>Value.int .i64 ((eZ ow (8*d+j) no (8*d+u):Nat):Int):=by
    apply ke;intro a _;simp only[eZ];by_cases haj:a=j
    ·subst haj;simp
    ·have:¬8*d+a=8*d+j:=by omega
     simp[haj,this]
   rw[this]at hb;exact hb
  ·have m:s≠r:=λe=>by subst e;exact hkk (h.ll d k s g hk b hr)
   have:=WH ho (h.leaf d s g b) m;have e:((List.range 8).map λa=>Value.int .i64 ((eZ ow (8*k+j) no (8*d+a):Nat):Int))=(List.range 8).map λa=>Value.int .i64 ((ow (8*d+a):Nat):Int):=by
    apply ke;intro a ha;rw[zh]at ha;rw[QD _ _ O]
   rw[e];exact this
 ·have m:d≠k:=λe=>by subst e;rw[hr]at b;cases b
  rw[QD _ _ O];exact h.iI d g b u w
theorem JQ (h:jW U F p M Lf ow){i j q:Nat}(hi:i<16)(hj:j<8)(hq:M i=some q)(hz:∀a,a<8->ow (8*(8*i+j)+a)=0){σ':Hp}(ho:QR U σ' q)(hb:bZ σ' q (((List.range 8).map λj=>ptr (Lf (8*i+j))).set j (.pointer none))) :
 jW σ' F p M (eZ Lf (8*i+j) none) ow:=by
 have G:=h.fm i q hi hq;refine⟨WH ho h.hd (Ne.symm G.2),λd y m b=>?_,λd m b E C=>?_,λk r x g=>?_,λk x g=>?_,h.fp,h.fm,λk r x g=>?_,h.mm,λk D r z A s u=>?_,λd k y m w b=>?_⟩
 ·by_cases hii:d=i
  ·subst hii;rw[hq]at b;cases b;rw[KE]at hb;have:((List.range 8).map (eZ (λj=>ptr (Lf (8*d+j))) j (.pointer none)))=(List.range 8).map λk=>ptr (eZ Lf (8*d+j) none (8*d+k)):=by
    apply ke;intro k _;simp only[eZ];by_cases hkj:k=j
    ·subst hkj;simp[ptr]
    ·have:¬8*d+k=8*d+j:=by omega
     simp[hkj,this]
   rw[this]at hb;exact hb
  ·have B:y≠q:=λe=>by subst e;exact hii (h.mm d i y m hi b hq)
   have:=WH ho (h.jf d y m b) B;have e:((List.range 8).map λk=>ptr (eZ Lf (8*i+j) none (8*d+k)))=(List.range 8).map λk=>ptr (Lf (8*d+k)):=by
    apply ke;intro k w;rw[zh]at w;rw[QD _ _ O]
   rw[e];exact this
 ·simp only[eZ];split
  ·rfl
  ·exact h.kR d m b E C
 ·by_cases hkk:k=8*i+j
  ·subst hkk;rw[ZL]at g;cases g
  ·rw[QD _ _ hkk]at g;exact WH ho (h.leaf k r x g) λe=>by subst e;exact h.ml i k r hi x hq g
 ·by_cases hkk:k=8*i+j
  ·subst hkk;exact hz
  ·rw[QD _ _ hkk]at g;exact h.iI k x g
 ·by_cases hkk:k=8*i+j
  ·subst hkk;rw[ZL]at g;cases g
  ·rw[QD _ _ hkk]at g;exact h.fl k r x g
 ·by_cases e1':k=8*i+j
  ·subst e1';rw[ZL]at s;cases s
  ·rw[QD _ _ e1']at s;by_cases e2':D=8*i+j
   ·subst e2';rw[ZL]at u;cases u
   ·rw[QD _ _ e2']at u;exact h.ll k D r z A s u
 ·by_cases hkk:k=8*i+j
  ·subst hkk;rw[ZL];intro e;cases e
  ·rw[QD _ _ hkk];exact h.ml d k y m w b
theorem Mi (h:jW U F p M Lf ow){i:Nat}(hi:i<16)(hz:∀j,j<8->Lf (8*i+j)=none){σ':Hp}(ho:QR U σ' p)(hb:bZ σ' p ((Value.bool true::(List.range 16).map λi=>ptr (M i)).set (1+i) (.pointer none))) :
 jW σ' F p (eZ M i none) Lf ow:=by
 have m:(Value.bool true::(List.range 16).map λi=>ptr (M i)).set (1+i) (.pointer none)=.bool true::(List.range 16).map λj=>ptr (eZ M i none j):=by
  rw[Nat.add_comm,rZ,KE]
  congr 1
  apply ke;intro j _;simp only[eZ];split<;>rfl
 rw[m]at hb;have e:∀{j q},eZ M i none j=some q->M j=some q:=λ{j q} d=>by
  by_cases hji:j=i
  ·subst hji;rw[ZL]at d;cases d
  ·rwa [QD _ _ hji]at d
 refine⟨hb,λj q g d=>WH ho (h.jf j q g (e d)) (h.fm j q g (e d)).2,λj g d=>?_,λk q r d=>WH ho (h.leaf k q r d) (h.fl k q r d).2,h.iI,h.fp,λj q g d=>h.fm j q g (e d),h.fl,λa b q s hb u w=>h.mm a b q s hb (e u) (e w),h.ll,λa k q s r d=>h.ml a k q s r (e d)⟩;by_cases hji:j=i
 ·subst hji;exact hz
 ·rw[QD _ _ hji]at d;exact h.kR j g d
theorem RU (h:je U F p ow){x no:Nat}(hx:x<1024){R:aP}(hR:∀σ',Ext F U σ'->je σ' (Grow F U) p (eZ ow x no)->R σ'):Zk.c (aW p) (x:Int) (no:Int) U R:=by
 refine Zk.o ?_;unfold Zk.v;obtain⟨M,Lf,h⟩:=h;have P:((x:Int).tdiv 8)=((x/8:Nat):Int):=by rw[YK O];simp
 have t2:(((x/8:Nat):Int).tdiv 8)=((x/8/8:Nat):Int):=by rw[YK O];simp
 have t3:(((x/8:Nat):Int).tmod 8)=((x/8%8:Nat):Int):=by rw[Kg O];simp
 have t4:((x:Int).tmod 8)=((x%8:Nat):Int):=by rw[Kg O];simp
 have hk:8*(x/8/8)+x/8%8=x/8:=by omega
 have hk2:8*(x/8)+x%8=x:=by omega
 refine nz aB (cS P O (nz aB (cS t2 O (aG ?_))));refine qC O ?_;rw[add_lit,add_lit,zH,nH];refine PX h O λv1 M1 q e1 E h1=>?_;refine nz aB (cS P O (nz aB (aG ?_)));rw[t3];refine qC O ?_;rw[add_lit,zH,nH];refine LZ h1 O O E λv2 L2 r e2 G h2=>?_;rw[hk]at G;have Q:Ext F U v2:=e1.jy e2;refine nz aB (aG ?_);rw[t4];refine qC O ?_;rw[add_lit,zH,nH];have s:x/8<128:=by omega
 refine(h2.leaf _ r s G).s0 aE λv3 o3 b3=>?_;have A:=N8 h2 s G O o3 b3;rw[hk2]at A;have a:∀b,Grow (Grow F U) v1 b->Grow F U b:=λb u=>by
  rcases u with h|h
  ·exact h
  ·exact .inr (j9 e1.1 h)
 have D:Ext F U v3:=Q.dS o3.ext λb u=>by subst u;exact a _ (h2.fl _ _ s G).1
 have y:∀v L4,Ext F U v->jW v (Grow (Grow F U) v1) p M1 L4 (eZ ow x no) →
  (bX (some ⟨q,0,none⟩) λi=>fS (i.add 0) v λV=>fS (i.add 1) v λL=>fS (i.add 2) v λJ=>fS (i.add 3) v λC=>fS (i.add 4) v λB=>fS (i.add 5) v λH=>fS (i.add 6) v λK=>fS (i.add 7) v λN=>
   If (V.isNone&&(L.isNone&&(J.isNone&&(C.isNone&&(B.isNone&&(H.isNone&&(K.isNone&&(N.isNone&&true)))))))) (Nz 8<|Ar .i64 ((x:Int).tdiv 8) λt47=>Nz 8<|Ar .i64 (t47.tdiv 8) λt48=>bX (some ⟨p,0,none⟩) λa49=>nN (a49.add 1) 16 t48 1 λa51=>dU a51 (.pointer none) v λS=>R S) (R v)):=by
  intro v L4 ev h4;have m:=h4.jf _ q O E;have g:∀j,j<8->((List.range 8).map λj=>ptr (L4 (8*(x/8/8)+j)))[0+j]?=some (.pointer ((L4 (8*(x/8/8)+j)).map λq=>⟨q,0,none⟩)):=λj z=>by rw[zH,KC _ z];rfl
  refine aG (m.rP (g 0 O) (m.rP (g 1 O) (m.rP (g 2 O) (m.rP (g 3 O) (m.rP (g 4 O) (m.rP (g 5 O) (m.rP (g 6 O) (m.rP (g 7 O) ?_))))))));have fin:∀w,Ext F U w->je w (Grow (Grow F U) v1) p (eZ ow x no)->R w:=λw ew hw=>hR w ew (je.loc.mono hw λb _ u=>a b u);refine cU (λe=>?_) λ_=>fin v ev ⟨_,_,h4⟩;have hz:∀j,j<8->L4 (8*(x/8/8)+j)=none:=by
   simp only[Option.isNone_map,u9,zE,Option.isNone_iff_eq_none]at e;intro j z;obtain⟨a0,a1,a2,W,Z,a5,Y,X⟩:=e
   match j,z with
   | 0,_=>exact a0
   | 1,_=>exact a1
   | 2,_=>exact a2
   | 3,_=>exact W
   | 4,_=>exact Z
   | 5,_=>exact a5
   | 6,_=>exact Y
   | 7,_=>exact X
  refine nz aB (cS P O (nz aB (cS t2 O (aG ?_))));refine qC O ?_;rw[add_lit,add_lit,zH,nH];refine h4.hd.s0 aE λS o4 b4=>fin S (ev.dS o4.ext λb u=>by subst u;exact a _ h4.fp) ⟨_,_,Mi h4 O hz o4 b4⟩
 refine Jn.intro (aG ?_);have d:=A.leaf _ r s G;have g:∀j,j<8->((List.range 8).map λj=>Value.int .i64 ((eZ ow x no (8*(x/8)+j):Nat):Int))[0+j]?=some (.int .i64 ((eZ ow x no (8*(x/8)+j):Nat):Int)):=λj z=>by rw[zH,KC _ z]
 refine d.rI (g 0 O) (d.rI (g 1 O) (d.rI (g 2 O) (d.rI (g 3 O) (d.rI (g 4 O) (d.rI (g 5 O) (d.rI (g 6 O) (d.rI (g 7 O) ?_)))))));refine cU (λe=>?_) λ_=>y v3 L2 D A;have hz:∀j,j<8->eZ ow x no (8*(8*(x/8/8)+x/8%8)+j)=0:=by
  rw[hk];simp only[vF,u9,zE,zT]at e;intro j z;obtain⟨a0,a1,a2,W,Z,a5,Y,X⟩:=e
  match j,z with
  | 0,_=>exact a0
  | 1,_=>exact a1
  | 2,_=>exact a2
  | 3,_=>exact W
  | 4,_=>exact Z
  | 5,_=>exact a5
  | 6,_=>exact Y
  | 7,_=>exact X
 refine nz aB (cS P O (nz aB (aG ?_)));rw[t3];refine qC O ?_;rw[add_lit,zH,nH];have m:=A.jf _ q O E;refine m.s0 aE λv5 o5 b5=>?_;exact y v5 _ (D.dS o5.ext λb u=>by subst u;exact a _ (A.fm _ _ O E).1) (JQ A O O E hz o5 b5)
def jD (ow:Nat->Nat)(a m no:Nat):Nat->Nat:=if Zt 1024 a m then λp=>if a<=p/\p<a+m then no else ow p else ow
def vA (a m:Int):Int:=if Zt 1024 a m then 0 else 1
theorem Ji (h:je U F p ow)(a m:Int)(ha : -1000000000000<=a)(ha2:a<=1000000000000)(no:Nat){R:aN}(h1:Zt 1024 a m=false->R 1 U)
 (hR:∀x y:Nat,a=x->m=y->1<=y->x+y<=1024->∀σ',Ext F U σ'->je σ' (Grow F U) p (jD ow x y no)->R 0 σ'):YQ.c (aW p) a m (no:Int) U R:=by
 refine YQ.o ?_;unfold YQ.v;have d:¬(0<=a/\1<=m/\m<=1024-a)->R 1 U:=λw=>h1 (by simp only[Zt,←uN];exact zL w);refine Ao h (cE rfl (bV.intro (cQ (λD=>bV.intro (cD rfl (bV.intro (cD rfl (cD rfl (d O)))))) λD=>?_)));refine bV.intro (cQ (λA=>bV.intro (cD rfl (cD rfl (d O)))) λA=>?_);refine bV.intro (cQ (λB=>cD rfl (d O)) λB=>ar O O (cQ (λu=>d O) λu=>?_));obtain⟨x,rfl⟩:=zc (show 0<=a by omega);obtain⟨y,rfl⟩:=zc (show 0<=m by omega);have j:Zt 1024 (x:Int) (y:Int)=true:=by simp only[Zt,zE,zU];omega
 refine Qg (a:=bO) (λ(t:Int) v=>∃i:Nat,t=((x+i:Nat):Int)/\i<=y/\Ext F U v/\je v (Grow F U) p (λz=>if x<=z/\z<x+i then no else ow z)) (λt _=>x+y-t.toNat) ⟨0,rfl,O,Ext.refl _ _,?_⟩ ?_
 ·have:(λz=>if x<=z/\z<x+0 then no else ow z)=ow:=by
   funext z;rw[zB O]
  rw[this];exact je.loc.mono h λb _ g=>.inl g
 rintro t v ⟨i,rfl,J,e,r⟩;refine cS (m:=x+y) O O (cQ (λE=>?_) λG=>?_)
 ·refine RU r O λH s C=>cS (m:=x+(i+1)) O O ⟨⟨i+1,rfl,O,e.jy s,?_⟩,O⟩;refine je.congr (je.loc.mono C λb _ g=>?_) λz K=>?_
  ·rcases g with h|h
   ·exact h
   ·exact .inr (j9 e.1 h)
  ·simp only[eZ];by_cases hzi:z=x+i
   ·subst hzi;rw[zC rfl,zC O]
   ·rw[zB hzi];by_cases hin:x<=z/\z<x+i
    ·rw[zC hin,zC O]
    ·rw[zB hin,zB O]
 ·have:i=y:=by omega
  subst this;refine hR x i rfl rfl O O v e ?_;unfold jD;rw[j];exact r
theorem PF (h:je U F p ow)(a m:Nat)(ha:a<=1000000){no:Nat}(hno:1<=no)(hno2:no<=1000){R:aN}(hR:∀σ',Ext F U σ'->je σ' (Grow F U) p (jD ow a m no)->R (vA a m) σ'):Yr.c (aW p) a m (no:Int) U R:=by
 refine Yr.o ?_;unfold Yr.v;refine Ao h (bV.intro (cD rfl (bV.intro (fV O (fV O ?_)))));refine Ji h a m O O no (λj=>?_) λx y w z A u σ' e r=>?_
 ·have:=hR U (Ext.refl _ _) (by unfold jD;rw[j];exact je.loc.mono h λb _ s=>.inl s);unfold vA at this;rw[j]at this;exact this
 ·have i:a=x:=by omega
  have d:m=y:=by omega
  subst i;subst d;have g:Zt 1024 (a:Int) (m:Int)=true:=by simp only[Zt,zE,zU];omega
  have:=hR σ' e r;unfold vA at this;rw[g]at this;exact this
theorem JZ (h:je U F p ow)(a m:Nat)(ha:a<=1000000){R:aN}(hR:∀σ',Ext F U σ'->je σ' (Grow F U) p (jD ow a m 0)->R (vA a m) σ'):X1.c (aW p) a m U R:=by
 refine X1.o ?_;unfold X1.v;refine Ji h a m O O 0 (λj=>?_) λx y w z A u σ' e r=>?_
 ·have:=hR U (Ext.refl _ _) (by unfold jD;rw[j];exact je.loc.mono h λb _ s=>.inl s);unfold vA at this;rw[j]at this;exact this
 ·have i:a=x:=by omega
  have d:m=y:=by omega
  subst i;subst d;have g:Zt 1024 (a:Int) (m:Int)=true:=by simp only[Zt,zE,zU];omega
  have:=hR σ' e r;unfold vA at this;rw[g]at this;exact this
end Go.Ar
namespace Go.Proofs
open Go.Shelf
def Tryz.iD:Go.Shelf.Ren:=⟨fun|7=>317|10=>340|n=>n,fun|23=>73|26=>3|3=>4|28=>116|0=>0|27=>115|33=>118|4=>4|n=>n,fun|n=>n⟩
theorem Tryz.mZ:Go.Proofs.SlLaysZI.n7 Tryz.prog Tryz.iD:={
 mixed:=by kernel_rfl
 f7:=⟨Tryz.f317.name,by decide,Tryz.func317.trans (congrArg some (by kernel_rfl))⟩
 f10:=⟨Tryz.f340.name,by decide,Tryz.func340.trans (congrArg some (by kernel_rfl))⟩
 t0:=Tryz.underlying0
 a0:=Tryz.isAgg0
 z0:=Tryz.sizeOf0
 v0:=Tryz.zeroValue0
 t4:=Tryz.underlying4
 a4:=Tryz.isAgg4
 z4:=Tryz.sizeOf4
 v4:=Tryz.zeroValue4
 t23:=Tryz.underlying73
 a23:=Tryz.isAgg73
 z23:=Tryz.sizeOf73
 v23:=Tryz.zeroValue73
 t26:=Tryz.underlying3
 a26:=Tryz.isAgg3
 z26:=Tryz.sizeOf3
 v26:=Tryz.zeroValue3
 t27:=Tryz.underlying115
 a27:=Tryz.isAgg115
 z27:=Tryz.sizeOf115
 v27:=Tryz.zeroValue115
 t28:=Tryz.underlying116
 a28:=Tryz.isAgg116
 z28:=Tryz.sizeOf116
 v28:=Tryz.zeroValue116
 t33:=Tryz.underlying118
 a33:=Tryz.isAgg118
 z33:=Tryz.sizeOf118
 v33:=Tryz.zeroValue118}
def Tryz.jx:Go.Shelf.Ren:=⟨fun|6=>66|8=>111|9=>112|11=>158|13=>160|12=>159|23=>224|24=>225|14=>215|15=>216|16=>217|17=>218|18=>219|19=>220|20=>221|21=>222|22=>223|25=>275|26=>276|27=>277|28=>278|29=>279|30=>280|31=>313|n=>n,fun|26=>3|28=>116|24=>31|0=>0|3=>3|37=>230|48=>311|50=>313|4=>4|40=>304|39=>303|45=>171|5=>5|9=>9|51=>353|55=>357|57=>383|58=>384|33=>118|n=>n,fun|n=>n⟩
theorem Tryz.q8:Go.Proofs.SlLaysZI.n6 Tryz.prog Tryz.jx:={
 mixed:=by kernel_rfl
 f6:=⟨Tryz.f66.name,by decide,Tryz.func66.trans (congrArg some (by kernel_rfl))⟩
 f8:=⟨Tryz.f111.name,by decide,Tryz.func111.trans (congrArg some (by kernel_rfl))⟩
 f11:=⟨Tryz.f158.name,by decide,Tryz.func158.trans (congrArg some (by kernel_rfl))⟩
 t0:=Tryz.underlying0
 a0:=Tryz.isAgg0
 z0:=Tryz.sizeOf0
 v0:=Tryz.zeroValue0
 t24:=Tryz.underlying31
 a24:=Tryz.isAgg31
 z24:=Tryz.sizeOf31
 v24:=Tryz.zeroValue31
 t26:=Tryz.underlying3
 a26:=Tryz.isAgg3
 z26:=Tryz.sizeOf3
 v26:=Tryz.zeroValue3
 t28:=Tryz.underlying116
 a28:=Tryz.isAgg116
 z28:=Tryz.sizeOf116
 v28:=Tryz.zeroValue116
 i26:=by kernel_rfl}
def Tryz.nM:Go.Shelf.Ren:=⟨fun|8=>111|11=>158|n=>n,fun|26=>3|28=>116|24=>31|0=>0|33=>118|4=>4|n=>n,fun|n=>n⟩
theorem Tryz.wU:Go.Proofs.SlLaysZI.n8 Tryz.prog Tryz.nM:={
 mixed:=by kernel_rfl
 f8:=⟨Tryz.f111.name,by decide,Tryz.func111.trans (congrArg some (by kernel_rfl))⟩
 f11:=⟨Tryz.f158.name,by decide,Tryz.func158.trans (congrArg some (by kernel_rfl))⟩
 t0:=Tryz.underlying0
 a0:=Tryz.isAgg0
 z0:=Tryz.sizeOf0
 v0:=Tryz.zeroValue0
 t24:=Tryz.underlying31
 a24:=Tryz.isAgg31
 z24:=Tryz.sizeOf31
 v24:=Tryz.zeroValue31
 t26:=Tryz.underlying3
 a26:=Tryz.isAgg3
 z26:=Tryz.sizeOf3
 v26:=Tryz.zeroValue3
 t28:=Tryz.underlying116
 a28:=Tryz.isAgg116
 z28:=Tryz.sizeOf116
 v28:=Tryz.zeroValue116
 i26:=by kernel_rfl}
def Tryz.nh:Go.Shelf.Ren:=⟨fun|5=>112|8=>160|7=>159|19=>224|20=>225|10=>215|11=>216|12=>217|13=>218|14=>219|15=>220|16=>221|17=>222|18=>223|30=>275|31=>276|32=>277|33=>278|34=>279|35=>280|40=>313|n=>n,fun|23=>31|25=>3|3=>3|32=>230|22=>31|0=>0|44=>311|46=>313|4=>4|36=>304|35=>303|41=>171|5=>5|9=>9|53=>353|57=>357|63=>383|64=>384|n=>n,fun|n=>n⟩
theorem Tryz.px:Go.Proofs.SlLaysM.n5 Tryz.prog Tryz.nh:={
 mixed:=by kernel_rfl
 f5:=⟨Tryz.f112.name,by decide,Tryz.func112.trans (congrArg some (by kernel_rfl))⟩
 f7:=⟨Tryz.f159.name,by decide,Tryz.func159.trans (congrArg some (by kernel_rfl))⟩
 f8:=Tryz.func160.trans (congrArg some (by kernel_rfl))
 f10:=⟨Tryz.f215.name,by decide,Tryz.func215.trans (congrArg some (by kernel_rfl))⟩
 f11:=⟨Tryz.f216.name,by decide,Tryz.func216.trans (congrArg some (by kernel_rfl))⟩
 f12:=⟨Tryz.f217.name,by decide,Tryz.func217.trans (congrArg some (by kernel_rfl))⟩
 f13:=⟨Tryz.f218.name,by decide,Tryz.func218.trans (congrArg some (by kernel_rfl))⟩
 f14:=⟨Tryz.f219.name,by decide,Tryz.func219.trans (congrArg some (by kernel_rfl))⟩
 f15:=⟨Tryz.f220.name,by decide,Tryz.func220.trans (congrArg some (by kernel_rfl))⟩
 f16:=⟨Tryz.f221.name,by decide,Tryz.func221.trans (congrArg some (by kernel_rfl))⟩
 f17:=⟨Tryz.f222.name,by decide,Tryz.func222.trans (congrArg some (by kernel_rfl))⟩
 f18:=⟨Tryz.f223.name,by decide,Tryz.func223.trans (congrArg some (by kernel_rfl))⟩
 f19:=Tryz.func224.trans (congrArg some (by kernel_rfl))
 f20:=Tryz.func225.trans (congrArg some (by kernel_rfl))
 f30:=⟨Tryz.f275.name,by decide,Tryz.func275.trans (congrArg some (by kernel_rfl))⟩
 f31:=Tryz.func276.trans (congrArg some (by kernel_rfl))
 f32:=Tryz.func277.trans (congrArg some (by kernel_rfl))
 f33:=⟨Tryz.f278.name,by decide,Tryz.func278.trans (congrArg some (by kernel_rfl))⟩
 f34:=⟨Tryz.f279.name,by decide,Tryz.func279.trans (congrArg some (by kernel_rfl))⟩
 f35:=⟨Tryz.f280.name,by decide,Tryz.func280.trans (congrArg some (by kernel_rfl))⟩
 f40:=⟨Tryz.f313.name,by decide,Tryz.func313.trans (congrArg some (by kernel_rfl))⟩
 t0:=Tryz.underlying0
 a0:=Tryz.isAgg0
 z0:=Tryz.sizeOf0
 v0:=Tryz.zeroValue0
 t3:=Tryz.underlying3
 a3:=Tryz.isAgg3
 z3:=Tryz.sizeOf3
 v3:=Tryz.zeroValue3
 t4:=Tryz.underlying4
 a4:=Tryz.isAgg4
 z4:=Tryz.sizeOf4
 v4:=Tryz.zeroValue4
 t5:=Tryz.underlying5
 a5:=Tryz.isAgg5
 z5:=Tryz.sizeOf5
 v5:=Tryz.zeroValue5
 t9:=Tryz.underlying9
 a9:=Tryz.isAgg9
 z9:=Tryz.sizeOf9
 v9:=Tryz.zeroValue9
 t22:=Tryz.underlying31
 a22:=Tryz.isAgg31
 z22:=Tryz.sizeOf31
 v22:=Tryz.zeroValue31
 t23:=Tryz.underlying31
 a23:=Tryz.isAgg31
 z23:=Tryz.sizeOf31
 v23:=Tryz.zeroValue31
 t25:=Tryz.underlying3
 a25:=Tryz.isAgg3
 z25:=Tryz.sizeOf3
 v25:=Tryz.zeroValue3
 t32:=Tryz.underlying230
 a32:=Tryz.isAgg230
 z32:=Tryz.sizeOf230
 v32:=Tryz.zeroValue230
 t35:=Tryz.underlying303
 a35:=Tryz.isAgg303
 z35:=Tryz.sizeOf303
 v35:=Tryz.zeroValue303
 t36:=Tryz.underlying304
 a36:=Tryz.isAgg304
 z36:=Tryz.sizeOf304
 v36:=Tryz.zeroValue304
 t41:=Tryz.underlying171
 a41:=Tryz.isAgg171
 z41:=Tryz.sizeOf171
 v41:=Tryz.zeroValue171
 t44:=Tryz.underlying311
 a44:=Tryz.isAgg311
 z44:=Tryz.sizeOf311
 v44:=Tryz.zeroValue311
 t46:=Tryz.underlying313
 a46:=Tryz.isAgg313
 z46:=Tryz.sizeOf313
 v46:=Tryz.zeroValue313
 t53:=Tryz.underlying353
 a53:=Tryz.isAgg353
 z53:=Tryz.sizeOf353
 v53:=Tryz.zeroValue353
 t57:=Tryz.underlying357
 a57:=Tryz.isAgg357
 z57:=Tryz.sizeOf357
 v57:=Tryz.zeroValue357
 t63:=Tryz.underlying383
 a63:=Tryz.isAgg383
 z63:=Tryz.sizeOf383
 v63:=Tryz.zeroValue383
 t64:=Tryz.underlying384
 a64:=Tryz.isAgg384
 z64:=Tryz.sizeOf384
 v64:=Tryz.zeroValue384}
end Go.Proofs
namespace Go.Bu
open Go Go.Vc Go.Proofs Go.RowKit Go.Maps Go.Sort Go.Shelf
variable {U:Hp}
def kS (B:Nat)(h:Hp)(s:Sl)(xs:List Value):Prop:=
 s.len=xs.length/\(xs=[]/\s.a=none\/∃b cs,B<=b/\s.a=some ⟨b,0,none⟩/\bZ h b cs/\∀j,j<xs.length->cs[j]?=xs[j]?)
theorem kS.bT {B:Nat}{h h':Hp}{s:Sl}{xs:List Value}{F:Nat->Prop}(hs:kS B h s xs)(e:Ext F h h')(hF:∀b,F b->b<B):kS B h' s xs:=by
 refine⟨hs.1,hs.2.imp id ?_⟩;rintro⟨b,cs,hb,ha,hk,hc⟩;exact⟨b,cs,hb,ha,e.bW hk (λa=>by have:=hF b a;omega),hc⟩
theorem kS.bP {B:Nat}{h h':Hp}{s:Sl}{xs:List Value}(hs:kS B h s xs)(e:bL h h'):kS B h' s xs:=hs.bT e λ_ h=>h.elim
theorem kS.mono {B B':Nat}{h:Hp}{s:Sl}{xs:List Value}(hs:kS B h s xs)(hB:B'<=B):kS B' h s xs:=by
 refine⟨hs.1,hs.2.imp id ?_⟩;rintro⟨b,cs,hb,ha,hk,hc⟩;exact⟨b,cs,O,ha,hk,hc⟩
theorem kS.mi {B:Nat}{h:Hp}{s:Sl}{xs:List Int}(hs:kS B h s (xs.map (Value.int .i64))){i:Nat}{x:Int}(hx:xs[i]?=some x){K:Int->Prop}(hK:K x) :
 Ix s.a s.len (i:Int) 1 λa=>gJ .i64 a h K:=by
 have d:i<xs.length:=(cZ.1 hx).1;rcases hs.2 with⟨h0,_⟩|⟨b,cs,_,ha,hb,hc⟩
 ·simp at h0;subst h0;simp at d
 ·rw[ha];refine ix O (by rw[hs.1];simp;omega) ?_;rw[add_lit];refine nX ?_ hK;rw[hb.cell];have:=hc i (by simpa using d);simpa[hx]using this
theorem V1 {w w':World}(h:Below w.heap.size w w'):bL w.heap w'.heap:=⟨h.size,λb a _=>h.block b a⟩
theorem Hz {n:Nat}{w w':World}(h:Below n w w'):Xt w w':=⟨h.os,h.tape,h.output,h.size⟩
def uS:Nat:=Tryz.iD.f 10
def Ed:Nat:=Tryz.iD.t 23
theorem S3 (m:Option Nat){R:Fv->Hp->Prop}(hR:R ⟨uS,#[],#[.pointer (some ⟨U.size,0,none⟩)]⟩ (U.push (.cells #[.map m] Ed (0,0)))) :
 QA.c m U R:=by
 rintro w rfl;refine(callsIn_wide.1 (AnyZI.keys_in Tryz.mZ Fence.wide 5 trivial rfl m w)).mono ?_;rintro e a ⟨rfl,rfl⟩;exact⟨⟨rfl,rfl,rfl,sC (by show _<(w.heap.push _).size;simp)⟩,[.func (.func uS) #[] #[.pointer (some ⟨w.heap.size,0,none⟩)]],rfl,⟨uS,#[],#[.pointer (some ⟨w.heap.size,0,none⟩)]⟩,rfl,hR⟩
def ku (x:Int):Prop:=-9223372036854775808<=x/\x<=9223372036854775807
theorem Vx {P:Program}{kt:Nat}(hk:P.underlying kt=some (.int .i64)){w:World}{m:Nat}{c:CK}{B:List (Int×c.T)}(h:dJ w.heap m .i64 c B)(hb:∀x∈B,ku x.1)(hs:B.length<=1000000) :
 ∃D:DataW Unit,w.ownsMap P kt (λ_=>some (.nil,[])) m B.length D/\(intKeys D).Perm (B.map (·.1))/\Maps.size D=B.length:=by
 obtain⟨d,z,J,s,K,G,F⟩:=h;have i:d.size=B.length:=by simpa using congrArg List.length s
 have j:∀e∈d.toList,∃x:Int,e.key=.int .i64 x/\ku x:=by
  intro e hme;have:(e.key,e.val)∈d.toList.map (λe=>(e.key,e.val)):=xS hme;rw[s]at this;obtain⟨y,H,e2⟩:=zF.1 this;simp only[Prod.mk.injEq]at e2;exact⟨y.1,e2.1.symm,hb y H⟩
 have wf:∀x:Int,ku x->(Lit.int .i64 x).wf=true:=by
  rintro x ⟨u,Q⟩;simp[Lit.wf,IntKind.min,IntKind.max,IntKind.bits,IntKind.signed];omega
 have r:∀e∈d.toList,∃x:Int,e.key=.int .i64 x/\Go.WideElems.rd P kt (λ_=>some ((.nil:DataW Unit),[])) e=some (.int .i64 x,.nil):=by
  intro e hme;obtain⟨x,g,L⟩:=j e hme;refine⟨x,g,?_⟩;simp[Go.WideElems.rd,keyOf,hk,g,mapKey,wf x L]
 refine⟨.map ((d.toList.map (Go.WideElems.rg P kt (λ_=>some (.nil,[])))).foldr DataW.insert []),⟨d,z,J,⟨?_,⟨λx g=>F x g,?_,?_⟩,λx g=>?_⟩,O,rfl⟩,?_,?_⟩
 ·have:1000000<=maxLen:=by unfold maxLen;omega
  omega
 ·exact G.imp (λh=>xC h)
 ·have E:d.toList.map (·.key)=(B.map (·.1)).map (Value.int .i64):=by
   have:=congrArg (List.map Prod.fst) s;simpa[lB,Function.comp_def]using this
  rw[E];exact List.Pairwise.map _ (λa b (C:a≠b) A=>C (by simpa using A)) K
 ·obtain⟨N,_,u⟩:=r x g;exact⟨_,u⟩
 ·simp only[intKeys];refine((Go.WideShapes.sorted_perm _).map _).trans ?_;rw[lB];have:d.toList.map ((λp=>Go.intOf p.1)∘Go.WideElems.rg P kt (λ_=>some ((.nil:DataW Unit),[])))=B.map (·.1):=by
   have E:d.toList.map (·.key)=(B.map (·.1)).map (Value.int .i64):=by
    have:=congrArg (List.map Prod.fst) s;simpa[lB,Function.comp_def]using this
   have M:d.toList.map ((λp=>Go.intOf p.1)∘Go.WideElems.rg P kt (λ_=>some ((.nil:DataW Unit),[])))=(d.toList.map (·.key)).map (λv=>match v with | .int _ x=>x|_=>0):=by
    rw[lB];apply ke;intro e hme;obtain⟨x,g,u⟩:=r e hme;simp[Function.comp,Go.WideElems.rg,u,g,Go.intOf]
   rw[M,E,lB]
   conv=>rhs;rw[←uJ (B.map (·.1))]
   rfl
  rw[this]
 ·simp only[Maps.size];rw[(Go.WideShapes.sorted_perm _).length_eq];simp[i]
theorem HJ {w:World}{B e n:Nat}{v:Value}{xs:List Value}(h:w.ownsRow B e 1 v n xs):∃s:Sl,v=.slice s.a s.len s.cap/\kS B w.heap s xs:=by
 obtain⟨b,h⟩:=h;rcases h with⟨rfl,rfl⟩|⟨g,cap,cur,rfl,hb,hg,_,_,hcs,ht⟩
 ·exact⟨⟨none,0,0⟩,rfl,by simp at b;simp[b],.inl ⟨by simpa using b,rfl⟩⟩
 ·refine⟨⟨some ⟨g,0,none⟩,n,cap⟩,rfl,by simp at b;simp[b],.inr ⟨g,cur.toList,hb,rfl,⟨e,by simpa using hg⟩,λj d=>?_⟩⟩;rw[←ht,zj,zC O]
theorem MN {w:World}{c m:Nat}{B:List (Int×Bool)}(hc:cell w.heap ⟨c,0,none⟩=some (.map (some m)))(hm:dJ w.heap m .i64 .b B)(hb:∀x∈B,ku x.1)(hs:B.length<=1000000)(n:Nat)(hn:1<=n) :
 SeqGives Fence.wide n Tryz.prog uS #[.pointer (some ⟨c,0,none⟩)] encZ (λss=>ss.Perm (B.map (·.1))) B.length w:=by
 obtain⟨D,g,j,a⟩:=Vx (P:=Tryz.prog) Tryz.mZ.t26 hm hb hs;have d:c<w.heap.size:=by
  unfold cell at hc;split at hc
  ·rename_i h;exact(jP.1 h).1
  ·cases hc
 have:=AnyZI.keys_gives (ρ:=Tryz.iD) {Tryz.mZ with} Fence.wide n trivial rfl hn c m B.length D w d hc g;intro l J W hW hJ hY h0;rw[a]at this;refine(this l J W hW hJ hY h0).mono ?_;rintro e W' ⟨i,ss,r,p⟩;exact⟨i,ss,r.trans j,p⟩
theorem xY (m:Nat):AnyZI.SortsIn Tryz.prog Tryz.jx Fence.wide m:=
 ⟨λbW d cap e W g a b=>callsIn_wide.2 (AnyM.slices_Sort_int Tryz.px bW d cap e W g a b),
  λp cap W=>callsIn_wide.2 (AnyM.slices_Sort_int_none Tryz.px p cap W)⟩
theorem SN {c m:Nat}{B:List (Int×Bool)}(hc:cell U ⟨c,0,none⟩=some (.map (some m)))(hm:dJ U m .i64 .b B)(hb:∀x∈B,ku x.1)(hs:B.length<=1000000){R:Sl->Hp->Prop}
 (hR:∀(s:Sl) (σ':Hp) (ss:List Int),bL U σ'->ss.Perm (B.map (·.1))->kS U.size σ' s (ss.map (Value.int .i64))->R s σ') :
 VI.c ⟨uS,#[],#[.pointer (some ⟨c,0,none⟩)]⟩ U R:=by
 rintro w rfl;have g:=MN hc hm hb hs 3 O;have p:B.length<=maxLen:=by unfold maxLen;omega
 have u:=AnyZI.collect_in Tryz.wU Fence.wide 5 trivial trivial rfl O uS #[.pointer (some ⟨c,0,none⟩)] trivial (Tryz.mZ.f10.enters rfl) _ _ p O _ g;refine(callsIn_wide.1 u).mono ?_;rintro e z ⟨v,ss,rfl,y,i,r,d⟩;obtain⟨s,rfl,j⟩:=HJ i;exact⟨Hz d,[.slice s.a s.len s.cap],rfl,s,rfl,hR s _ ss (V1 d) y j⟩
end Go.Bu
namespace Go.Bu
open Go Go.Vc Go.Proofs
variable {U:Hp}{p n sb:Nat}{S:Nat->Bool}{ms:List Nat}
theorem LM {B:Nat}{s:Sl}{xs:List Int}(hs:kS B U s (xs.map (Value.int .i64)))(hl:xs.length<1000000000){m:Int}(hm:m∈xs)(hle:∀y∈xs,m<=y){R:aN}(hR:R m U):W8.c s U R:=by
 refine W8.o ?_;unfold W8.v;have w:s.len=xs.length:=by simpa using hs.1
 have g:0<xs.length:=List.length_pos_of_mem hm;refine Jn.intro (fV O ?_);have A:xs[0]?=some xs[0]:=by simp[g]
 refine hs.mi (i:=0) A ?_;refine Us (a:=bO) (bb:=bO) (λ(c t:Int) u=>∃k:Nat,t=(k:Int)/\k<=xs.length/\u=U/\c∈xs/\∀(j:Nat) (y:Int),j<k->xs[j]?=some y->c<=y) (λ_ t _=>xs.length-t.toNat)
  ⟨1,rfl,O,rfl,ka _,λj y p d=>?_⟩ ?_
 ·have:j=0:=by omega
  subst this;rw[A]at d;cases d;omega
 rintro c t u ⟨k,rfl,G,rfl,x,b⟩;refine cQ (λD=>?_) (λF=>?_)
 ·have r:k<xs.length:=by omega
  have z:xs[k]?=some xs[k]:=by simp[r]
  refine hs.mi z (cS (m:=k+1) O O ⟨⟨k+1,rfl,O,rfl,?_,λj y p d=>?_⟩,O⟩)
  ·split
   ·exact ka _
   ·exact x
  ·by_cases e:j=k
   ·subst e;rw[z]at d;cases d;split<;>omega
   ·have:=b j y O d;split<;>omega
 ·have:k=xs.length:=by omega
  subst this;obtain⟨j,p,e⟩:=vz hm;have C:=b j m p (by simp[p,e]);have E:=hle c x;have:c=m:=Int.le_antisymm C E;rw[this];exact hR
def YT (n:Nat)(S:Nat->Bool)(k:Nat):List Nat:=((List.range n).filter (can S k)).map (· * 2^k)
theorem Nt (hb:Bounded S n){k q:Nat}(hc:can S k q=true):q<n:=by
 have:=ZZ hb (ZP.1 hc).1;have a:=kL k;have b:q<=q*2^k:=Nat.le_mul_of_pos_right _ a;omega
theorem Kb (hb:Bounded S n){k x:Nat}:x∈YT n S k↔∃q,x=q*2^k/\can S k q=true:=by
 simp only[YT,zF,zI,zh];constructor
 ·rintro⟨q,⟨_,hc⟩,rfl⟩;exact⟨q,rfl,hc⟩
 ·rintro⟨q,rfl,hc⟩;exact⟨q,⟨Nt hb hc,hc⟩,rfl⟩
theorem Hy (n:Nat)(S:Nat->Bool)(k:Nat):(YT n S k).Pairwise (· < ·):=by
 unfold YT;refine List.Pairwise.map _ (λa b h=>Nat.mul_lt_mul_of_pos_right h (kL k)) ?_;exact List.Pairwise.sublist tf List.pairwise_lt_range
theorem H9 (n:Nat)(S:Nat->Bool)(k:Nat):(YT n S k).length=many n S k:=by
 simp[YT,many,yR]
theorem Tz {k:Nat}{B:List (Int×Bool)}(hK:Keys S k B)(hn:(B.map (·.1)).Nodup)(hb:Bounded S n):(B.map (·.1)).Perm ((YT n S k).map λ(x:Nat)=>(x:Int)):=by
 rw[CB hn]
 ·intro x;simp only[zF];constructor
  ·rintro⟨⟨x1,x2⟩,hm,rfl⟩;obtain⟨_,q,g,d⟩:=hK.1 x1 x2 hm;exact⟨_,(Kb hb).2 ⟨q,rfl,d⟩,g.symm⟩
  ·rintro⟨y,hy,rfl⟩;obtain⟨q,rfl,d⟩:=(Kb hb).1 hy;exact⟨_,hK.2 q d,rfl⟩
 ·refine List.Pairwise.map _ (λa b (i:a<b)=>?_) (Hy n S k);intro e;have:a=b:=by exact_mod_cast e
  omega
theorem Om {k:Nat}{B:List (Int×Bool)}(hK:Keys S k B)(hb:Bounded S n)(hn:n<=1024):∀x∈B,ku x.1:=by
 rintro⟨x,v⟩ hx;obtain⟨_,q,rfl,a⟩:=hK.1 x v hx;have:=ZZ hb (ZP.1 a).1;have:=kL k;constructor<;>simp only<;>omega
theorem TV (h:BH U p n S sb ms){k:Nat}(hk:ms.length<=k):YT n S k=[]:=by
 rw[List.eq_nil_iff_forall_not_mem];intro x hx;obtain⟨q,_,a⟩:=(Kb h.jr).1 hx;have:=h.fits (ZZ h.jr (ZP.1 a).1);omega
theorem NP {h:Hp}{v:Value}{e:Nat}:cell (h.push (.cells #[v] e (0,0))) ⟨h.size,0,none⟩=some v:=by simp[cell]
theorem HL (h:Hp)(o:Obj):bL h (h.push o):=Ext.push _ _ _
def eW (a:Int):Bool:=(List.range 11).any λk=>a==((2^k:Nat):Int)
theorem N5:(List.range 1025).all (λa=>a==0||((a &&& (a-1))==0)==((List.range 11).any λk=>a==2^k))=true:=by decide +kernel
theorem U8 {a:Nat}(h1:1<=a)(h2:a<=1024):((a &&& (a-1))==0)=((List.range 11).any λk=>a==2^k):=by
 have:=kf.1 N5 a (zh.2 O);simp only[nr,zT]at this;rcases this with h|h
 ·omega
 ·exact h
theorem Vu (a:Nat):eW (a:Int)=((List.range 11).any λk=>a==2^k):=by
 unfold eW
 congr 1
 funext k
 rw[kT];simp only[zT];exact⟨λh=>by exact_mod_cast h,λh=>by exact_mod_cast h⟩
def fM (aF align:Int):Bool:=decide (1<=aF)&&(decide (aF<=1024)&&(decide (1<=align)&&(decide (align<=1024)&&eW align)))
def ZT (n:Nat)(S:Nat->Bool)(aF align:Nat):Nat->Option Nat
 | 0=>none
 | k+1=>match ZT n S aF align k with
  | some x=>some x
  | none=>if aF<=2^k/\align<=2^k then(YT n S k).head? else none
def Zr (n:Nat)(S:Nat->Bool)(aF align:Nat):Option Nat:=ZT n S aF align 11
def iZ (n:Nat)(S:Nat->Bool)(aF align:Int):Int:=if fM aF align then(match Zr n S aF.toNat align.toNat with|some _=>0|none=>6)else 1
def iT (n:Nat)(S:Nat->Bool)(aF align:Int):Nat:=if fM aF align then(match Zr n S aF.toNat align.toNat with|some x=>x|none=>0)else 0
def jb (n:Nat)(S:Nat->Bool)(aF align:Int):Nat->Bool:=if fM aF align then(match Zr n S aF.toNat align.toNat with|some x=>take S x (x+aF.toNat)|none=>S)else S
theorem Mt {n:Nat}{S:Nat->Bool}{m a k x:Nat}(h:ZT n S m a k=some x):∀j,k<=j->ZT n S m a j=some x:=by
 intro j hj
 induction j with
 | zero=>
  have:k=0:=by omega
  subst this;exact h
 | succ j ih=>
  by_cases e:k=j+1
  ·subst e;exact h
  ·simp only[ZT,ih O]
theorem Oq (h:BH U p n S sb ms){m a:Nat}(hn:ZT n S m a ms.length=none):∀j,ms.length<=j->ZT n S m a j=none:=by
 intro j hj
 induction j with
 | zero=>
  have:ms.length=0:=by omega
  rw[this]at hn;exact hn
 | succ j ih=>
  by_cases e:ms.length=j+1
  ·rw[←e];exact hn
  ·simp only[ZT,ih O,TV h (show ms.length<=j by omega)];simp
theorem Lu {k:Nat}(hpos:0<many n S k):∃x rest,YT n S k=x::rest:=by
 rw[←H9]at hpos
 match h:YT n S k with
 | []=>rw[h]at hpos;simp at hpos
 | x::r=>exact⟨x,r,rfl⟩
theorem kZ (h:BH U p n S sb ms)(aF align:Int){R:Int->Int->Hp->Prop}
 (hR:∀σ',Ext (· ∈ ms) U σ'->BH σ' p n (jb n S aF align) sb ms->R ((iT n S aF align:Nat):Int) (iZ n S aF align) σ'):XY.c (aW p) aF align U R:=by
 refine XY.o ?_;unfold XY.v;have hn2:=h.n2;have hl:=h.len;have H:fM aF align=false->R 0 1 U:=λe=>by
  have:=hR U (Ext.refl _ _);simp only[jb,iT,iZ,e,zZ,zp]at this;exact this h
 have d:¬(1<=aF/\aF<=1024/\1<=align/\align<=1024)->R 0 1 U:=λhn=>H (by
  simp only[fM,←Bool.and_assoc,←uN];rw[zL];rfl;omega)
 refine Bl h (cE rfl (bV.intro ?_));refine cQ (λh1=>bV.intro (cD rfl (bV.intro (cD rfl (bV.intro (cD rfl (cD rfl (d O)))))))) λh1=>?_;refine bV.intro (cQ (λh2=>bV.intro (cD rfl (bV.intro (cD rfl (cD rfl (d O)))))) λh2=>?_);refine bV.intro (cQ (λZ=>bV.intro (cD rfl (cD rfl (d O)))) λZ=>?_);refine bV.intro (cQ (λh4=>cD rfl (d O)) λh4=>?_);obtain⟨a,rfl⟩:=zc (show 0<=align by omega);obtain⟨m,rfl⟩:=zc (show 0<=aF by omega);refine cS (m:=a-1) O O ?_;rw[iX O O];have L:((((a &&& (a-1):Nat):Int)) != 0) = !eW (a:Int):=by
  rw[Vu,←U8 O O];simp only[bne,Bool.not_inj_iff];rw[kT];simp only[zT];omega
 rw[L];cases P:eW (a:Int)
 ·refine cD rfl (H ?_);simp[fM,P]
 refine cE rfl ?_;have N:fM (m:Int) (a:Int)=true:=by
  simp only[fM,P,u9,zE,zU];omega
 refine aG (h.rB λcap=>?_);refine Qg (a:=bO) (λt F=>∃k:Nat,t=(k:Int)/\k<=ms.length/\F=U/\ZT n S m a k=none) (λt _=>ms.length-t.toNat) ⟨0,rfl,O,rfl,rfl⟩ ?_;rintro t F ⟨k,rfl,hk,rfl,r⟩;refine cQ (λhlt=>?_) (λX=>?_)
 ·simp only at hlt;obtain⟨mm,Y⟩:=h.get (k:=k) O;refine h.rM Y (mC O (bV.intro ?_));have next:ZT n S m a (k+1)=none->Ar .i64 ((k:Int)+1) λK=>(∃k:Nat,K=(k:Int)/\k<=ms.length/\F=F/\ZT n S m a k=none)/\ms.length-K.toNat<ms.length-(k:Int).toNat:=
   λJ=>cS (m:=k+1) O O ⟨⟨k+1,rfl,O,rfl,J⟩,O⟩
  refine cQ (λM=>?_) (λhsm=>cE rfl (next ?_))
  ·have j:m<=2^k/\a<=2^k:=by
    have:((if(a:Int)>(m:Int)then(a:Int)else(m:Int))<=((2^k:Nat):Int)):=M
    split at this<;>omega
   refine h.lh Y ?_;refine cQ (λhpos=>?_) (λhz=>next ?_)
   ·have C:0<many n S k:=by omega
    obtain⟨x,rest,Q⟩:=Lu C;obtain⟨q,rfl,hc⟩:=(Kb h.jr (k:=k) (x:=x)).1 (by rw[Q];simp);have E:Zr n S m a=some (q*2^k):=by
     refine Mt (k:=k+1) ?_ 11 O;simp only[ZT,r,zC j,Q,List.head?_cons]
    have hfb:=ZZ h.jr (ZP.1 hc).1;obtain⟨B,hB,w⟩:=h.maps k mm Y;have g:=IA w hB.nodup h.jr;have hle:B.length<=1024:=by
     rw[g];have:=List.countP_le_length (p:=can S k) (l:=List.range n);simp only[many,xO]at *;omega
    refine S3 _ ?_;have e1:=HL F (.cells #[.map (some mm)] Ed (0,0));refine SN NP (e1.fR hB id) (Om w h.jr h.n2) O λs σ' ss e2 P hsl=>?_;have A:=P.trans (Tz w hB.nodup h.jr);have u:=A.length_eq;simp only[zk]at u;rw[H9,←g]at u;refine LM hsl O (m:=((q*2^k:Nat):Int)) (A.mem_iff.2 (by rw[Q];simp)) (λy hy=>?_) ?_
    ·have D:=A.mem_iff.1 hy;have b:=Hy n S k;rw[Q]at D b;simp only[zS,zX,zF]at D;rcases D with rfl|⟨z,hz,rfl⟩
     ·omega
     ·have:=(sy.1 b).1 z hz;omega
    ·have W:=(h.bP e1).bP e2;refine M8 W O (λy hy1 hy2=>Ua hc (Qp.2 O)) λZ e3 V=>?_;have:=hR Z ((e1.to.trans e2.to).trans e3);simp only[jb,iT,iZ,N,dD,E,zR]at this;exact this V
   ·simp only[ZT,r,zC j];have:YT n S k=[]:=tO (by rw[H9];omega);rw[this];rfl
  ·have G:¬(m<=2^k/\a<=2^k):=by
    have:¬((if(a:Int)>(m:Int)then(a:Int)else(m:Int))<=((2^k:Nat):Int)):=hsm
    split at this<;>omega
   simp only[ZT,r,zB G]
 ·simp only at X;have:k=ms.length:=by omega
  subst this;have E:Zr n S m a=none:=Oq h r 11 O;have:=hR F (Ext.refl _ _);simp only[jb,iT,iZ,N,dD,E,zR]at this;exact this h
end Go.Bu
namespace Go.Ar
open Go.Bu
structure AR where
 n:Nat
 room:Nat
 tb:List cA
 S:Nat->Bool
 st:List Nat
 ow:Nat->Nat
 cG:List (List cH)
 cO:List gK
 runs:List (Nat×Nat)
def AR.ck (A:AR)(k:Int):Bool:=decide (0<=k)&&decide (k<(A.tb.length:Int))
def V8 (A:AR)(r:Nat×Nat):AR:={A with ow:=jD A.ow r.1 r.2 0,st:=UI A.st r.1 r.2 2 [1],S:=Q0 A.n A.S r.1 r.2}
def Uu (A:AR)(rs:List (Nat×Nat)):AR:=rs.foldl V8 A
def di (sp:Sp)(size:Nat):Option Nat:=((List.range (sp.st.length/size)).map (· * size)).find? λs=>s != 0&&fA sp s size==0
def U2 (st:List Nat)(a m:Nat):List Nat:=((List.range m).map (a + ·)).foldl (λl (h:Nat)=>iQ l h) st
def U3 (A:AR)(sp:Sp)(size:Nat):Option (AR×Sp):=match di sp size with
 | none=>none
 | some s=>some ({A with st:=U2 A.st (s/16) (size/16),S:=Q0 A.n A.S s size},fW sp s size)
def Kn (m:Nat):Nat:=if m<=16 then 16 else if m<=32 then 32 else 64
def dP (A:AR)(x aF no:Nat):AR:={A with S:=take A.S x (x+aF),st:=UI A.st x aF 1 [2,3],ow:=jD A.ow x aF no}
def dA (A:AR)(sp:Sp)(aF align no:Nat):Option Nat×AR×Sp:=match Zr A.n A.S aF align with
 | some x=>(some x,dP A x aF no,sp)
 | none=>match U3 A sp (Kn (max aF align))with
  | none=>(none,A,sp)
  | some (A',sp')=>match Zr A'.n A'.S aF align with
   | some x=>(some x,dP A' x aF no,sp')
   | none=>(none,A',sp')
def Qi (A:AR)(k:Int):Int:=if A.ck k then(match A.cO[k.toNat]? with
 | some t=>if t.bs=[]then 4 else 0
 | none=>5)else 1
def YI (A:AR)(k:Int):List Int:=if Qi A k=0 then(match A.cO[k.toNat]? with
 | some t=>t.bs.getLast?.getD []
 | none=>[])else[]
def ZQ (A:AR)(k:Int):AR:=if Qi A k=0 then{A with cO:=A.cO.modify k.toNat gK.rem}else A
def Hm (A:AR)(k:Int)(xs:List Int):Int:=if A.ck k then(match A.tb[k.toNat]?,A.cG[k.toNat]? with
 | some c,some ss=>if xs.length=c.batch then(if xs.all (λx=>dY c ss x==some true)then 0 else 8)else 1
 | _,_=>5)else 1
def VD (A:AR)(k:Int)(xs:List Int):Bool:=decide (Hm A k xs=0)&&(match A.cO[k.toNat]? with
 | some t=>decide (t.bs.length<A.room)
 | none=>false)
def Ks (A:AR)(k:Int)(xs:List Int):AR:=if VD A k xs then{A with cO:=A.cO.modify k.toNat λt=>{t with bs:=t.bs++[xs]}}else A
def QV (A:AR)(k m:Int):Int:=if A.ck k then(if m<0 then 1 else 0)else 1
def VP (A:AR)(k m:Int):List Nat×List cH:=match A.tb[k.toNat]?,A.cG[k.toNat]? with
 | some c,some ss=>Kt c m.toNat ss
 | _,_=>([],[])
def Yt (A:AR)(k m:Int):List Nat:=if QV A k m=0 then(VP A k m).1 else[]
def YM (A:AR)(k m:Int):AR:=if QV A k m=0 then{A with cG:=A.cG.set k.toNat (VP A k m).2}else A
def Kd (A:AR)(k:Int)(xs:List Int):Int:=if A.ck k then(match A.tb[k.toNat]?,A.cG[k.toNat]? with
 | some c,some ss=>iE c ss xs
 | _,_=>5)else 1
def ZN (A:AR)(k:Int)(xs:List Int):AR:=if Kd A k xs=0 then(match A.tb[k.toNat]?,A.cG[k.toNat]? with
 | some c,some ss=>Uu {A with cG:=A.cG.set k.toNat (cK (xs.foldl (fE c) ss))} ((QF (xs.foldl (fE c) ss)).map λs=>(s,c.aF))
 | _,_=>A)else A
def Vl (A:AR)(sp:Sp)(k:Int):Int:=if A.ck k then(match A.tb[k.toNat]?,A.cG[k.toNat]? with
 | some c,some ss=>(match (dA A sp c.aF 1 (k.toNat+1)).1 with
  | some x=>GN c ss x
  | none=>6)
 | _,_=>5)else 1
def cN (A:AR)(sp:Sp)(k:Int):AR×Sp:=if A.ck k then(match A.tb[k.toNat]?,A.cG[k.toNat]? with
 | some c,some ss=>(match dA A sp c.aF 1 (k.toNat+1)with
  | (some x,A',sp')=>(if GN c ss x=0 then{A' with cG:=A'.cG.set k.toNat (il c ss x)}else A',sp')
  | (none,A',sp')=>(A',sp'))
 | _,_=>(A,sp))else(A,sp)
def Kz (m a:Int):Bool:=decide (1<=m)&&(decide (m<=64)&&(a==1||(a==2||(a==4||(a==8||a==16)))))
def QJ (A:AR)(sp:Sp)(m a:Int):Int:=if Kz m a then(if(dA A sp m.toNat a.toNat 41).1.isSome then 0 else 6)else 1
def Qh (A:AR)(sp:Sp)(m a:Int):Nat:=if Kz m a then(dA A sp m.toNat a.toNat 41).1.getD 0 else 0
def cC (A:AR)(sp:Sp)(m a:Int):AR×Sp:=if Kz m a then(match dA A sp m.toNat a.toNat 41 with
 | (some x,A',sp')=>({A' with runs:=mset2 A'.runs x m.toNat},sp')
 | (none,A',sp')=>(A',sp'))else(A,sp)
where mset2 (l:List (Nat×Nat)) (x m:Nat):List (Nat×Nat):=if l.any (λr=>r.1==x)then l.map (λr=>if r.1==x then(x,m)else r)else l++[(x,m)]
def pO (A:AR)(x:Int):Option (Nat×Nat):=A.runs.find? λr=>(r.1:Int)==x
def Vp (A:AR)(x:Int):Int:=if(pO A x).isSome then 0 else 8
def QT (A:AR)(x:Int):AR:=match pO A x with
 | some r=>V8 {A with runs:=A.runs.filter λq=>!((q.1:Int)==x)} r
 | none=>A
def rO (A:AR)(p:Nat):Option (Nat×Nat):=A.runs.find? λr=>decide (r.1<=p)&&decide (p<r.1+r.2)
def U7 (A:AR)(x:Int):Option (Int×Nat):=if x<0 then none else
 let p:=x.toNat/256
 let no:=if p<1024 then A.ow p else 0
 if no=0 then none else if no=41 then(rO A p).map λr=>(-1,r.1*256)else
 match A.tb[no-1]?,A.cG[no-1]? with
 | some c,some ss=>(rm c ss x).map λa=>(((no-1:Nat):Int),a)
 | _,_=>none
def wQ (A:AR)(x:Int):Bool:=match U7 A x with
 | some (k,a)=>if(a:Int)=x then(if k<0 then true else(match A.tb[k.toNat]?,A.cG[k.toNat]? with
  | some c,some ss=>dY c ss x==some true
  | _,_=>false))else false
 | none=>false
def oQ (A:AR)(p:Int):Bool:=decide (0<=p)&&decide (A.st.getD p.toNat 0≠0)
def uQ (A:AR)(k:Nat):AR:=match A.cO[k]? with
 | some t=>t.out.foldl (λA' xs=>ZN A' k xs) {A with cO:=A.cO.set k t.tick}
 | none=>A
def r6 (A:AR):AR:=(List.range A.cO.length).foldl uQ A
end Go.Ar
namespace Go.Ar
open Go.Vc (bU dB cT)
inductive Ph where
 | take (k:Nat)
 | cJ (k w:Nat)
 | cL (k w:Nat)
 | grow (k w:Nat)
 | fill
 | eI (m:Nat)
 | find (x:Int)
 | put (k:Nat) (x:Int)
 | back
 | dE (s a:Int)
 | drain
 deriving DecidableEq
structure Th where
 ls:List Li
 bQ:List Bt
 ph:Option Ph
structure Cf where
 aF:Nat
 ia:Nat
 threads:Nat
 dC:Nat
 room:Nat
abbrev Bk:=Int×Int×Int×Int
structure Hw where
 tb:List cA
 cf:Cf
 sp:Sp
 bY:List AR
 bR:List Th
 live:List (Int×Bk)
def X9 (bY:List AR)(x:Int):Int:=if x<0 then -1 else match bY.findIdx? (λA=>oQ A (x/256))with
 | some i=>(i:Int)
 | none=>-1
def Hw.own (H:Hw)(t:Nat):Nat:=t%H.bY.length
def Hw.dV (H:Hw)(t:Nat)(f:Th->Th):Hw:={H with bR:=H.bR.modify t f}
def Hw.cF (H:Hw)(k:Nat)(A:AR):Hw:={H with bY:=H.bY.set k A}
def VV (H:Hw)(x size cls:Int):Hw:={H with live:=dB H.live x (x,size,cls,X9 H.bY x)}
def Q8 (H:Hw)(t k:Nat)(xs:List Int):Hw:=H.dV t λh=>{h with bQ:=h.bQ++[(k,xs)]}
def jS (H:Hw)(t:Nat):Option Ph:=match H.bR[t]? with
 | some h=>if h.bQ=[]then none else some .back
 | none=>none
def ZX (bY:List AR)(xs:List Int)(a:Nat):List Int:=xs.filter λx=>X9 bY x==(a:Int)
def Vy (H:Hw)(k:Nat)(part:Nat->List Int)(l:List Nat):Hw:=l.foldl (λH a=>match H.bY[a]? with
 | some A=>if part a=[]then H else H.cF a (ZN A (k:Int) (part a))
 | none=>H) H
def Gp (H:Hw)(own k:Nat)(xs:List Int):Hw:=match H.bY[own]? with
 | some A=>if(ZX H.bY xs own).length=xs.length/\VD A (k:Int) xs=true then H.cF own (Ks A (k:Int) xs)
  else Vy (if(ZX H.bY xs own).length=xs.length then H.cF own (Ks A (k:Int) xs)else H) k (ZX H.bY xs) (List.range H.bY.length)
 | none=>H
abbrev uk:=Hw×Option Ph×Int×Int
def lP (H:Hw)(x:Int):Int:=if 0<=X9 H.bY x then(match H.bY[(X9 H.bY x).toNat]? with
 | some A=>(match U7 A x with
  | some (k,y)=>if 0<=k/\(y:Int)=x then 9 else 8
  | none=>8)
 | none=>8)else 8
def Hi (H:Hw)(t:Nat)(x:Int):uk:=match bU H.live x with
 | none=>(H,none,0,lP H x)
 | some b=>if b.2.2.1<0 then({H with live:=cT H.live x},some (.dE (x/256) b.2.2.2),0,0)
  else(Q8 {H with live:=cT H.live x} t b.2.2.1.toNat [x],some (.put b.2.2.1.toNat x),0,0)
def Hw.jY (H:Hw)(t:Nat):Th:=H.bR.getD t ⟨[],[],none⟩
def Hw.cls (H:Hw)(k:Nat):cA:=H.tb.getD k ⟨8,1,1⟩
def Hw.eC (H:Hw)(t:Nat):AR:=H.bY.getD (H.own t) ⟨0,0,[],λ_=>false,[],λ_=>0,[],[],[]⟩
def Th.li (h:Th)(k:Nat):Li:=h.ls.getD k ir
def Th.ij (h:Th)(k:Nat)(l:Li):Th:={h with ls:=h.ls.set k l}
def iz (H:Hw)(t k:Nat)(x:Int):Hw:=
 let c:=H.cls k
 let l:=(H.jY t).li k
 let H1:=H.dV t λh=>h.ij k (dL c x l).2
 let H2:=if(dL c x l).1=[]then H1 else Q8 H1 t k (dL c x l).1
 let H3:=H2.dV t λh=>{h with bQ:=h.bQ.drop 1}
 if H.cf.dC<Ko H.tb (H3.jY t).ls then H3.dV t λh=>{h with ls:=Kr Vk H.tb h.ls,bQ:=h.bQ++Kx Vk H.tb h.ls}else H3
def WJ (H:Hw)(t:Nat):Ph->uk
 | .take k=>match Ky (H.cls k) ((H.jY t).li k)with
  | (some x,l)=>(VV (H.dV t λh=>h.ij k l) x ((H.cls k).size:Int) (k:Int),none,x,0)
  | (none,l)=>(H.dV t λh=>h.ij k l,some (.cJ k (oz (H.cls k) l)),0,0)
 | .cJ k w=>if w=(H.cls k).batch then(if Qi (H.eC t) (k:Int)=0 then(Q8 (H.cF (H.own t) (ZQ (H.eC t) (k:Int))) t k (YI (H.eC t) (k:Int)),some .fill,0,0)else(H,some (.cL k w),0,0))else(H,some (.cL k w),0,0)
 | .cL k w=>
  let H1:=H.cF (H.own t) (YM (H.eC t) (k:Int) (w:Int))
  if Yt (H.eC t) (k:Int) (w:Int)=[]then(H1,some (.grow k w),0,0)else(Q8 H1 t k ((Yt (H.eC t) (k:Int) (w:Int)).map λ(x:Nat)=>(x:Int)),some .fill,0,0)
 | .grow k w=>
  let r:=cN (H.eC t) H.sp (k:Int)
  let H1:={H.cF (H.own t) r.1 with sp:=r.2}
  if Vl (H.eC t) H.sp (k:Int)=0 then(H1,some (.cL k w),0,0)else(H1,none,0,Vl (H.eC t) H.sp (k:Int))
 | .fill=>match (H.jY t).bQ with
  | (k,x::xs)::_=>(VV (H.dV t λh=>{ls:=h.ls.set k (eB xs.reverse (h.li k)),bQ:=[],ph:=h.ph}) x ((H.cls k).size:Int) (k:Int),none,x,0)
  | _=>(H,none,0,0)
 | .eI m=>
  let r:=cC (H.eC t) H.sp (m:Int) 1
  let H1:={H.cF (H.own t) r.1 with sp:=r.2}
  let x:Int:=((Qh (H.eC t) H.sp (m:Int) 1*256:Nat):Int)
  if QJ (H.eC t) H.sp (m:Int) 1=0 then(VV H1 x ((m*256:Nat):Int) (-1),none,x,0)else(H1,none,0,QJ (H.eC t) H.sp (m:Int) 1)
 | .find x=>Hi H t x
 | .put k x=>(iz H t k x,jS (iz H t k x) t,0,0)
 | .back=>match (H.jY t).bQ with
  | (k,xs)::r=>
   let H1:=Gp (H.dV t λh=>{h with bQ:=r}) (H.own t) k xs
   (H1,jS H1 t,0,0)
  | []=>(H,none,0,0)
 | .dE s a=>(match H.bY[a.toNat]? with
  | some A=>H.cF a.toNat (QT A s)
  | none=>H,none,0,0)
 | .drain=>
  let H1:=H.dV t λh=>{h with ls:=Kr ZY H.tb h.ls,bQ:=Kx ZY H.tb h.ls}
  (H1,jS H1 t,0,0)
end Go.Ar