/- Texts joined. -/
import Derived.Deep.Slices
import Derived.Deep.Fields
import Derived.ChangeSame
import Derived.Lib.SmallJoins
import Derived.Below
import Derived.Test.YteihenagckcobaaGreatDoorProg
import Derived.KernelRfl
import Derived.RangeFuncLeaves
import Derived.RangeFuncRecord
import Derived.RangeFuncSeq
import Derived.RangeFuncCalls
import Derived.OrdersIn
import Derived.TacticsIn
import Derived.RangeFuncIn
import Derived.Shelf.SlIterI.Nil
import Derived.Shelf.SortM.Plain
import Derived.Shelf.SortM.SortNone
import Derived.Ground.GgzProg
import Derived.Ground.SlgmProg
import Derived.Shelf.SlMaps.Clone
import Derived.Ground.SlmcProg
import Derived.Test.YteihenagckcobaaGreatDoorO1
set_option linter.unusedVariables false
set_option linter.unusedSimpArgs false
namespace Go.Vc
open Go
abbrev Rg:=Nat->Prop
def dM (P:Hp->Rg->Prop):Prop:=∀U σ' (F G:Rg),P U F->U.size<=σ'.size->(∀b,b<U.size->F b->G b/\σ'[b]?=U[b]?)->P σ' G
def Grow (F:Rg)(U:Hp):Rg:=λb=>F b\/U.size<=b
theorem dM.mono {P:Hp->Rg->Prop}(hl:dM P){U:Hp}{F G:Rg}(h:P U F)(hs:∀b,b<U.size->F b->G b):P U G:=hl U U F G h (zD _) λb d a=>⟨hs b d a,rfl⟩
theorem dM.bS {P:Hp->Rg->Prop}(hl:dM P){U σ':Hp}{F T:Rg}(h:P U F)(e:Ext T U σ')(hn:∀b,b<U.size->F b->¬T b):P σ' F:=
 hl U σ' F F h e.1 λb d a=>⟨a,e.2 b d (hn b d a)⟩
theorem dM.bO {P:Hp->Rg->Prop}(hl:dM P){U σ':Hp}{F:Rg}(h:P U F)(e:bK U σ'):P σ' F:=hl.bS h e λ_ _ _=>id
def Sep {L:Type}(C:L->Hp->Rg->Prop)(U:Hp)(F:Rg):Prop:=∃ρ:Nat->L,∀i,C i U λb=>F b/\ρ b=i
variable {L:Type}{C:L->Hp->Rg->Prop}{U σ':Hp}{F:Rg}
theorem Sep.loc (hC:∀i,dM (C i)):dM (Sep C):=by
 rintro U j F G ⟨ρ,h⟩ g d;exact⟨ρ,λi=>hC i _ _ _ _ (h i) g λb e a=>⟨⟨(d b e a.1).1,a.2⟩,(d b e a.1).2⟩⟩
theorem Sep.get (h:Sep C U F)(i:L):∃G:Rg,(∀b,G b->F b)/\C i U G:=by
 obtain⟨ρ,h⟩:=h;exact⟨_,λb a=>a.1,h i⟩
open Classical in
theorem Sep.step (hC:∀i,dM (C i))(h:Sep C U F)(i:L):∃G:Rg,(∀b,G b->F b)/\C i U G/\∀(σ':Hp) (C':L->Hp->Rg->Prop) (G':Rg),
 (∀j,j≠i->C' j=C j)->Ext G U σ'->(∀b,G' b->G b\/U.size<=b)->C' i σ' G'->dM (C' i)->Sep C' σ' λb=>F b/\b<U.size/\¬G b\/G' b:=by
 obtain⟨ρ,h⟩:=h;refine⟨_,λb d=>d.1,h i,λσ' C' G' w e u s r=>⟨λb=>if G' b then i else ρ b,λj=>?_⟩⟩
 by_cases hji:j=i
 ·subst hji;exact r.mono s λb _ d=>⟨.inr d,zC d⟩
 ·rw[w j hji];refine hC j _ _ _ _ (h j) e.1 λb d m=>?_;have a:¬(F b/\ρ b=i):=λp=>hji (m.2.symm.trans p.2);have g:¬G' b:=λp=>by
   rcases u b p with h1|h1
   ·exact a h1
   ·omega
  exact⟨⟨.inl ⟨m.1,d,a⟩,(zB g).trans m.2⟩,e.2 b d a⟩
open Classical in
theorem Sep.oJ (hC:∀i,dM (C i))(h:Sep C U F)(i j:L)(hij:i≠j):∃G H:Rg,(∀b,G b->F b)/\(∀b,H b->F b)/\(∀b,G b->¬H b)/\C i U G/\C j U H/\∀(σ':Hp) (C':L->Hp->Rg->Prop) (G' H':Rg),
 (∀k,k≠i->k≠j->C' k=C k)->Ext (λb=>G b\/H b) U σ'->(∀b,G' b->(G b\/H b)\/U.size<=b)->(∀b,H' b->(G b\/H b)\/U.size<=b)->(∀b,G' b->¬H' b)->C' i σ' G'->C' j σ' H'->(∀k,dM (C' k)) →
 Sep C' σ' λb=>F b/\b<U.size/\¬(G b\/H b)\/G' b\/H' b:=by
 obtain⟨ρ,h⟩:=h;refine⟨_,_,λb a=>a.1,λb a=>a.1,λb g B=>hij (g.2.symm.trans B.2),h i,h j,λσ' C' G' H' x e y z hd w A u=>⟨λb=>if G' b then i else if H' b then j else ρ b,λk=>?_⟩⟩
 by_cases hki:k=i
 ·subst hki;exact(u _).mono w λb _ a=>⟨.inr (.inl a),zC a⟩
 by_cases hkj:k=j
 ·subst hkj;exact(u _).mono A λb _ a=>⟨.inr (.inr a),by show(if G' b then i else if H' b then k else ρ b)=k;rw[zB λd=>hd b d a,zC a]⟩
 ·rw[x k hki hkj];refine hC k _ _ _ _ (h k) e.1 λb a r=>?_;have s:¬((F b/\ρ b=i)\/F b/\ρ b=j):=by
   rintro(d|d)
   ·exact hki (r.2.symm.trans d.2)
   ·exact hkj (r.2.symm.trans d.2)
  have p:¬G' b:=λd=>by
   rcases y b d with g|g
   ·exact s g
   ·omega
  have m:¬H' b:=λd=>by
   rcases z b d with g|g
   ·exact s g
   ·omega
  exact⟨⟨.inl ⟨r.1,a,s⟩,by show(if G' b then i else if H' b then j else ρ b)=k;rw[zB p,zB m];exact r.2⟩,e.2 b a s⟩
def iq (p:Nat)(cs:List Value):Hp->Rg->Prop:=λU F=>F p/\bY U p cs
theorem iq.loc (p:Nat)(cs:List Value):dM (iq p cs):=λU g F G h d b=>by
 obtain⟨e,a⟩:=h.2;have:=b p h.2.lt h.1;exact⟨this.1,e,this.2.trans a⟩
def jE (r:Nat)(k:IntKind)(c:CK)(l:List (Int×c.T)):Hp->Rg->Prop:=λU F=>F r/\dH U r k c l
theorem jE.loc (r:Nat)(k:IntKind)(c:CK)(l:List (Int×c.T)):dM (jE r k c l):=λU j F G h i d=>by
 have:=d r h.2.lt h.1;obtain⟨e,b,g,a⟩:=h.2;exact⟨this.1,e,b,this.2.trans g,a⟩
def xH:Hp->Rg->Prop:=λ_ _=>True
theorem xH.loc:dM xH:=λ_ _ _ _ _ _ _=>trivial
def wY (s:Sl)(sz:Nat)(xs:List Value):Hp->Rg->Prop:=λU F=>Own F U s sz xs
theorem wY.loc (s:Sl)(sz:Nat)(xs:List Value):dM (wY s sz xs):=λU d F G h g a=>by
 refine⟨h.1,h.2.imp id ?_⟩;rintro⟨b,cs,hq,ha,⟨e,he⟩,r⟩;have:=a b (bY.lt ⟨e,he⟩) hq;exact⟨b,cs,this.1,ha,⟨e,this.2.trans he⟩,r⟩
def bR (s:Sl)(sz:Nat)(xs:List Value):Hp->Rg->Prop:=λh F=>xs.length=s.len*sz/\(s.len=0/\s.cap=0\/∃b cs,F b/\s.a=some ⟨b,0,none⟩/\bY h b cs/\s.len<=s.cap/\cs.length=s.cap*sz/\cs.take xs.length=xs)
theorem bR.loc (s:Sl)(sz:Nat)(xs:List Value):dM (bR s sz xs):=λU d F G h g a=>by
 refine⟨h.1,h.2.imp id ?_⟩;rintro⟨b,cs,hq,ha,⟨e,he⟩,r⟩;have:=a b (bY.lt ⟨e,he⟩) hq;exact⟨b,cs,this.1,ha,⟨e,this.2.trans he⟩,r⟩
theorem _root_.aI{s n xs}:dM (bR s n xs):=bR.loc _ _ _
theorem bR.nil (h:Hp)(F:Rg)(sz:Nat)(a:Option Addr):bR ⟨a,0,0⟩ sz [] h F:=⟨by simp,.inl ⟨rfl,rfl⟩⟩
theorem bR.rd {h:Hp}{F:Rg}{s:Sl}{sz:Nat}{xs:List Value}(ho:bR s sz xs h F):Rd h s.a xs:=by
 rcases ho.2 with⟨hl,_⟩|⟨b,cs,_,ha,hb,_,_,ht⟩
 ·have:=ho.1;rw[hl]at this;simp at this;subst this;cases s.a<;>simp[Rd]
 ·rw[ha];intro j v hv;rw[add_lit,hb.cell,zH];rw[←ht,zj]at hv;split at hv
  ·exact hv
  ·cases hv
theorem bR.app {F:Rg}{h:Hp}{s x:Sl}{sz bytes e:Nat}{zs xs ys:List Value}{K:Sl->Hp->Prop}(ho:bR s sz xs h F)(hz:zs.length=sz)
 (hy:ys.length=x.len*sz) (hr:Rd h x.a ys) (h1:∀v∈ys,dP v=true) (hb:(s.len+x.len)*bytes<=2^46) (hc:s.len+x.len<=2^62)
 (hx:0<x.len) (hK:∀s' h',s'.len=s.len+x.len->Ext F h h'->bR s' sz (xs++ys) h' (Grow F h)->K s' h'):App s sz bytes e zs x h K:=by
 refine⟨xs,ys,ho.1,hy,ho.rd,hr,h1,hb,hc,λg=>?_,λp c i=>?_⟩
 ·rcases ho.2 with⟨hl,hcap⟩|⟨b,cs,hQ,ha,hk,hle,hcl,ht⟩
  ·omega
  ·rw[ha];simp only;rw[add_lit];have r:(s.len+x.len)*sz<=s.cap*sz:=lU _ g;rw[zm]at r;have d:=ho.1;refine VP hk O λh' j m=>hK _ h' rfl (Ext.eL j hQ) ⟨?_,.inr ⟨b,_,.inl hQ,rfl,m,g,?_,?_⟩⟩
   ·simp[d,hy,zm]
   ·simp;omega
   ·rw[zO,d];rw[zH,j7,←d];rw[ht,oT aA,mQ aA]
 ·refine hK _ _ rfl (Ext.push _ _ _) ⟨by simp[ho.1,hy,zm],.inr ⟨h.size,xs++ys++(List.replicate (c-(s.len+x.len)) zs).flatten,.inr (zD _),rfl,⟨e,by simp⟩,i,?_,?_⟩⟩
  ·simp only[zO,wo,tP,vA,ho.1,hy,hz,←zm]
   congr 1;omega
  ·rw[oT aA,mQ aA]
theorem bR.st {F:Rg}{h:Hp}{s:Sl}{sz:Nat}{xs:List Value}(ho:bR s sz xs h F){j:Nat}(hj:j<xs.length){v:Value}{K:aP}{a:Addr}(ha:∀b,s.a=some ⟨b,0,none⟩->a=⟨b,j,none⟩)
 (hK:∀h',Ext F h h'->bR s sz (xs.set j v) h' F->K h'):dS a v h K:=by
 rcases ho.2 with⟨hl,_⟩|⟨b,cs,hq,hsa,hb,hle,hcl,ht⟩
 ·have:=ho.1;rw[hl]at this;simp at this;subst this;simp at hj
 ·rw[ha b hsa];have d:j<cs.length:=by
   have:(cs.take xs.length).length=xs.length:=by rw[ht]
   rw[zZ]at this;omega
  refine⟨by rw[hb.cell,cU d];rfl,hb.nr,hK _ (Ext.jJ (F:=F) hq) ⟨by simp[ho.1],.inr ⟨b,_,hq,hsa,hb.set v,hle,by simp[hcl],?_⟩⟩⟩;rw[nR,List.take_set,ht]
def cW (s:Sl)(sz:Nat)(xs:List Value):Hp->Rg->Prop:=λU F=>xs.length=s.len*sz/\(xs=[]\/∃b o cs,F b/\s.a=some ⟨b,o,none⟩/\mc U b cs/\∀j,j<xs.length->cs[o+j]?=xs[j]?)
theorem cW.loc (s:Sl)(sz:Nat)(xs:List Value):dM (cW s sz xs):=λU d F G h g a=>by
 refine⟨h.1,h.2.imp id ?_⟩;rintro⟨b,o,cs,hq,ha,⟨e,z,he⟩,r⟩;have:=a b (mc.lt ⟨e,z,he⟩) hq;exact⟨b,o,cs,this.1,ha,⟨e,z,this.2.trans he⟩,r⟩
theorem _root_.aH{s n xs}:dM (cW s n xs):=cW.loc _ _ _
theorem bR.gF {Q:Rg}{h:Hp}{s:Sl}{sz:Nat}{xs:List Value}(ho:bR s sz xs h Q):cW s sz xs h Q:=by
 refine⟨ho.1,?_⟩;rcases ho.2 with⟨hl,_⟩|⟨b,cs,hq,ha,hb,_,_,ht⟩
 ·left;have:=ho.1;rw[hl]at this;simpa using this
 ·refine .inr ⟨b,0,cs,hq,ha,hb.q,λj a=>?_⟩;rw[←ht,zj,zH,zC a]
theorem cW.cell {s:Sl}{sz:Nat}{xs:List Value}(h:cW s sz xs U F){j:Nat}{v:Value}(hv:xs[j]?=some v):∃b o,s.a=some ⟨b,o,none⟩/\Vc.cell U ⟨b,o+j,none⟩=some v:=by
 have d:=(cV.1 hv).1;rcases h.2 with h0|⟨b,o,cs,_,ha,hb,hc⟩
 ·subst h0;simp at d
 ·exact⟨b,o,ha,by rw[hb.cell,hc j d];exact hv⟩
theorem cW.np {s:Sl}{k:IntKind}{xs:List Int}(h:cW s 1 (xs.map (Value.int k)) U F){i:Nat}{x:Int}(hx:xs[i]?=some x){K:Int->Prop}(hK:K x):Ix s.a s.len (i:Int) 1 λa=>gA k a U K:=by
 have m:=(cV.1 hx).1;obtain⟨b,o,g,d⟩:=h.cell (j:=i) (v:=.int k x) (by simp[hx]);have e:=h.1;simp at e;rw[g];refine ix O O ?_;rw[add_lit];exact nQ (by simpa using d) hK
theorem cW.rd {s:Sl}{sz:Nat}{xs:List Value}(h:cW s sz xs U F):Rd U s.a xs:=by
 cases ha:s.a with
 | none=>
  rcases h.2 with h0|⟨b,o,cs,_,d,_⟩
  ·exact h0
  ·rw[ha]at d;cases d
 | some a=>
  intro j v hv;obtain⟨b,o,d,e⟩:=h.cell hv;rw[ha]at d;cases d;rw[add_lit];exact e
end Go.Vc
namespace Go.Vc
open Go Go.ChangeShapes Go.WideShapes Go.Deep Go.RowKit
def Pk (U:Hp):Bool->Hp->Prop:=λb σ'=>b=true/\bK U σ'
theorem Nb {P:Program}{f:Nat}{args:Array Value}{w:World}(h:Wc P f args [.one .b] w.heap (Pk w.heap)):Calls P f args w λe w'=>e=.returned (.bool true)/\Below w.heap.size w w':=by
 refine(h w rfl).mono ?_;rintro e w' ⟨a,vs,rfl,d⟩
 match vs,d with
 | [v],d=>
  obtain⟨x,rfl,j,i⟩:=d;have g:x=true:=j;subst g;exact⟨rfl,⟨a.1,a.2.1,a.2.2.1,a.2.2.2,λk m=>i.2 k m id⟩⟩
def ie (h:Hp)(l:Sl)(xs:List (Int×Int×Int)):Prop:=l.len=xs.length/\∀i x y z,xs[i]?=some (x,y,z)->∃b o,l.a=some ⟨b,o,none⟩/\b<h.size ∧
 cell h ⟨b,o+i*3,none⟩=some (.int .i64 x)/\cell h ⟨b,o+i*3+1,none⟩=some (.int .i64 y)/\cell h ⟨b,o+i*3+2,none⟩=some (.int .i64 z)
theorem CY {h:Hp}{a:Addr}{v:Value}(hc:cell h a=some v):a.block<h.size/\a.spot=none:=by
 unfold cell at hc;split at hc
 ·rename_i heq;refine⟨(zt.1 heq).1,?_⟩;cases hs:a.spot with
  | none=>rfl
  | some s=>rw[hs]at hc;simp at hc
 ·cases hc
end Go.Vc
namespace Go.Vc
open Go
theorem fU {k:IntKind}{b o i:Nat}{h:Hp}{x:Int}{K:Int->Prop}(hc:cell h ⟨b,o+i,none⟩=some (.int k x))(hK:K x):gA k (Addr.add ⟨b,o,none⟩ i) h K:=by
 rw[add_lit];exact nQ hc hK
theorem cP {e:Int}{m:Nat}{K:Int->Prop}(he:e=(m:Int))(hm:m<=4611686018427387904)(hK:K (m:Int)):Ar .i64 e K:=by
 rw[he];exact ar O O hK
theorem Ed {k:Nat}(h:k<=62):min ((k:Int).toNat) IntKind.i64.bits=k:=by
 have:IntKind.i64.bits=64:=rfl;rw[this];omega
theorem yD {k:IntKind}{e:Int}{K:Int->Prop}(hK:K (k.wrap e)):Ar k e K:=hK
variable {U:Hp}{b o i j:Nat}{cs:List Value}
theorem bY.rI (hb:bY U b cs){k:IntKind}{x:Int}{K:Int->Prop}(hc:cs[o+i]?=some (.int k x))(hK:K x):gA k (Addr.add ⟨b,o,none⟩ i) U K:=by
 rw[add_lit];exact nQ (hb.cell.trans hc) hK
theorem bY.rB (hb:bY U b cs){x:Bool}{K:Bool->Prop}(hc:cs[o+i]?=some (.bool x))(hK:K x):lL (Addr.add ⟨b,o,none⟩ i) U K:=by
 rw[add_lit];exact nt (hb.cell.trans hc) hK
theorem bY.rP (hb:bY U b cs){x:Option Addr}{K:Option Addr->Prop}(hc:cs[o+i]?=some (.pointer x))(hK:K x):fW (Addr.add ⟨b,o,none⟩ i) U K:=by
 rw[add_lit];exact tT (hb.cell.trans hc) hK
theorem bY.rM (hb:bY U b cs){x:Option Nat}{K:Option Nat->Prop}(hc:cs[o+i]?=some (.map x))(hK:K x):ld (Addr.add ⟨b,o,none⟩ i) U K:=by
 rw[add_lit];exact F2 (hb.cell.trans hc) hK
theorem bY.rS (hb:bY U b cs){a:Option Addr}{n c:Nat}{K:Sl->Prop}(hc:cs[o+i]?=some (.slice a n c))(hK:K ⟨a,n,c⟩):jj (Addr.add ⟨b,o,none⟩ i) U K:=by
 rw[add_lit];exact nF (hb.cell.trans hc) hK
theorem bY.eZ (hb:bY U b cs){k:IntKind}{x:Int}{K:Int->Prop}(hc:cs[o+i+j]?=some (.int k x))(hK:K x):gA k (Addr.add (Addr.add ⟨b,o,none⟩ i) j) U K:=by
 rw[add_lit,add_lit];exact nQ (hb.cell.trans hc) hK
theorem bY.uv (hb:bY U b cs){k:IntKind}{x:Int}{K:Int->Prop}(hc:cs[o]?=some (.int k x))(hK:K x):gA k ⟨b,o,none⟩ U K:=nQ (hb.cell.trans hc) hK
theorem bY.rU (hb:bY U b cs){x:Option Addr}{K:Option Addr->Prop}(hc:cs[o]?=some (.pointer x))(hK:K x):fW ⟨b,o,none⟩ U K:=tT (hb.cell.trans hc) hK
theorem bY.tO (hb:bY U b cs){a:Option Addr}{n c:Nat}{K:Sl->Prop}(hc:cs[o]?=some (.slice a n c))(hK:K ⟨a,n,c⟩):jj ⟨b,o,none⟩ U K:=nF (hb.cell.trans hc) hK
theorem bY.s1 (hb:bY U b cs){v:Value}(ho:o+i<cs.length){K:aP}(hK:∀h',Qo U h' b->bY h' b (cs.set (o+i) v)->K h'):dS (Addr.add ⟨b,o,none⟩ i) v U K:=by
 rw[add_lit];refine⟨?_,hb.nr,hK _ ⟨KT _ _ _,λc a=>Vx a⟩ (hb.set v)⟩;rw[hb.cell,cU ho];rfl
theorem bY.s0 (hb:bY U b cs){v:Value}(ho:o<cs.length){K:aP}(hK:∀h',Qo U h' b->bY h' b (cs.set o v)->K h'):dS ⟨b,o,none⟩ v U K:=by
 refine⟨?_,hb.nr,hK _ ⟨KT _ _ _,λc a=>Vx a⟩ (hb.set v)⟩;rw[hb.cell,cU ho];rfl
theorem nw {e:Nat}{K:Addr->Hp->Prop}(hK:∀h',h'.size=U.size+1->bK U h'->bY h' U.size cs->K ⟨U.size,0,none⟩ h'):Nw (.cells cs.toArray e (0,0)) U K:=
 hK _ aA (Ext.push _ _ _) (bY.push _ _ _)
theorem tE {K:Addr->Hp->Prop}(hK:∀h',h'.size=U.size+1->bK U h'->(∀(k:IntKind) (c:CK),dH h' U.size k c [])->K ⟨U.size,0,none⟩ h'):Nw (.map #[] 0) U K:=
 hK _ aA (Ext.push _ _ _) λk c=>dH.push _ _ _
theorem mk {n bytes e:Nat}{zs:List Value}{K:Sl->Hp->Prop}(h1:bytes*n<=1073741824)(h2:n<=1073741824)
 (hK:∀h',h'.size=U.size+1->bK U h'->bY h' U.size (List.replicate n zs).flatten->K ⟨some ⟨U.size,0,none⟩,n,n⟩ h'):Mk (n:Int) (n:Int) bytes e zs U K:=by
 refine⟨O,sM _,?_,O,?_⟩
 ·have:((bytes:Int)*(n:Int))=((bytes*n:Nat):Int):=by simp
  rw[this];omega
 ·simp only[dE];exact nw hK
theorem iM {s:Sl}{sz lo hi mx:Nat}{K:Sl->Prop}(h1:lo<=hi)(h2:hi<=mx)(h3:mx<=s.cap)(hK:K ⟨if mx=lo then s.a else s.a.map (·.add (lo*sz)),hi-lo,mx-lo⟩):eY s sz (lo:Int) (hi:Int) (mx:Int) K:=
 ⟨O,O,O,O,by simpa using hK⟩
theorem lE (a b:Nat):(((a:Nat):Int)==((b:Nat):Int))=(a==b):=by rw[lZ];simp;omega
theorem om (a b:Nat):(((a:Nat):Int) != ((b:Nat):Int))=(a != b):=by rw[bne,bne,lE]
theorem wT (a:Nat):(((a:Nat):Int)==0)=(a==0):=lE a 0
theorem JU (a:Nat):(((a:Nat):Int) != 0)=(a != 0):=om a 0
def ints (l:List Nat):List Value:=l.map λ(x:Nat)=>Value.int .i64 (x:Int)
theorem QI (l:List Nat):(ints l).length=l.length:=by simp[ints]
theorem OZ {l:List Nat}{i x:Nat}(h:l[i]?=some x):(ints l)[i]?=some (.int .i64 (x:Int)):=by simp[ints,h]
theorem UJ (l m:List Nat):ints (l++m)=ints l++ints m:=by simp[ints]
theorem cW.re {s:Sl}{F:Rg}{xs:List Nat}(h:cW s 1 (ints xs) U F){i x:Nat}(hx:xs[i]?=some x){K:Int->Prop}(hK:K (x:Int)):Ix s.a s.len (i:Int) 1 λa=>gA .i64 a U K:=by
 have j:=(cV.1 hx).1;obtain⟨b,o,g,d⟩:=h.cell (OZ hx);have e:=h.1;rw[QI]at e;rw[g];refine ix O O ?_;rw[add_lit];exact nQ (by simpa using d) hK
theorem cW.oB {s:Sl}{F:Rg}{xs:List Nat}(h:cW s 1 (ints xs) U F):s.len=xs.length:=by
 have:=h.1;rw[QI]at this;omega
theorem cW.nil (F:Rg)(a:Option Addr)(c sz:Nat):cW ⟨a,0,c⟩ sz [] U F:=⟨by simp,.inl rfl⟩
theorem bY.gF {s:Sl}{sz:Nat}{xs:List Value}(hb:bY U b cs)(ha:s.a=some ⟨b,o,none⟩)(hl:xs.length=s.len*sz)(hc:∀j,j<xs.length->cs[o+j]?=xs[j]?):cW s sz xs U (· = b):=
 ⟨hl,.inr ⟨b,o,cs,rfl,ha,hb.q,hc⟩⟩
theorem cW.any {s:Sl}{sz:Nat}{xs:List Value}{F:Rg}(h:cW s sz xs U F):cW s sz xs U λ_=>True:=(cW.loc s sz xs).mono h λ_ _ _=>trivial
theorem I0 {a xa:Option Addr}{xc sz bytes e:Nat}{zs:List Value}{K:Sl->Hp->Prop}(hK:K ⟨a,0,0⟩ U):App ⟨a,0,0⟩ sz bytes e zs ⟨xa,0,xc⟩ U K:=by
 refine⟨[],[],by simp,by simp,by cases a<;>simp[Rd],by cases xa<;>simp[Rd],by simp,by simp,by simp,λ_=>?_,λh=>absurd (zD 0) h⟩
 cases a
 ·exact hK
 ·exact hK
theorem bR.push {F:Rg}{s:Sl}{sz bytes e t:Nat}{zs xs vs:List Value}{K:Sl->Hp->Prop}(ho:bR s sz xs U F)(hF:∀b,U.size<=b->F b)(hz:zs.length=sz)(hv:vs.length=sz)(h1:∀v∈vs,dP v=true)
 (hb:bytes<=1000) (hl:s.len<=1000000) (hK:∀s' h',s'.len=s.len+1->Ext F U h'->bR s' sz (xs++vs) h' F->K s' h') :
 Nw (.cells vs.toArray t (0,0)) U λn v=>App s sz bytes e zs ⟨some n,1,1⟩ v K:=by
 refine nw λv r e1 d=>?_;have g:=(bR.loc s sz xs).bO ho e1;refine g.app (ys:=vs) hz (by simp[hv]) ?_ h1 ?_ ?_ mN λs' h' a m i=>hK s' h' a (e1.to.trans m) ?_
 ·intro j u hu;rw[add_lit,zH,d.cell];exact hu
 ·simp only;have:(s.len+1)*bytes<=1000001*1000:=lW O hb;omega
 ·simp only;omega
 ·exact aI.mono i λb _ p=>by
   rcases p with h|h
   ·exact h
   ·exact hF b O
theorem bR.oB {F:Rg}{s:Sl}{xs:List Nat}(h:bR s 1 (ints xs) U F):s.len=xs.length:=by
 have:=h.1;rw[QI]at this;omega
theorem FO {F:Rg}{s:Sl}{sz bytes e:Nat}{zs vs:List Value}{R:Sl->Hp->Prop}(h:cW s sz vs U F)(hpos:0<sz)(hz:zs.length=sz)(h1:∀v∈vs,dP v=true)(hb:bytes<=1000)(hl:s.len<=1000000)
 (hR:∀s' σ',s'.len=s.len->bK U σ'->bR s' sz vs σ' (λb=>U.size<=b)->R s' σ') :
 If s.a.isNone (R ⟨none,0,0⟩ U) (Nw (.cells #[] e (0,0)) U λn v=>App ⟨some n,0,0⟩ sz bytes e zs s v λt v1=>R t v1):=by
 have d:=h.1;refine cO (λp=>?_) λp=>?_
 ·have r:vs=[]:=by
   rcases h.2 with g|⟨b,o,cs,_,ha,_⟩
   ·exact g
   ·rw[ha]at p;cases p
  subst r;have g:s.len=0:=by
   have x:s.len*sz=0:=by simpa using d.symm
   rcases uA.1 x with h|h
   ·exact h
   ·omega
  exact hR _ _ (by simp[g]) (Ext.refl _ _) (bR.nil _ _ _ _)
 ·refine nw (cs:=[]) λv y e1 w=>?_;have A:=(cW.loc s sz vs).bO h e1;rcases yH s.len with g|g
  ·obtain⟨a,n,c⟩:=s;simp only at g;subst g;have:vs=[]:=by simpa using d
   subst this;exact I0 (hR _ _ rfl e1 (bR.nil _ _ _ _))
  ·refine(bR.nil v (λb=>U.size<=b) sz (some ⟨U.size,0,none⟩)).app (ys:=vs) hz d A.rd h1 ?_ ?_ g λs' z m C j=>hR s' z (by simpa using m) ?_ ?_
   ·simp only[zH];have:s.len*bytes<=1000000*1000:=lW hl hb;omega
   ·simp only;omega
   ·exact Ext.fresh e1 C λi u=>u
   ·rw[tg]at j;exact aI.mono j λb _ B=>by
     rcases B with h|h
     ·exact h
     ·omega
def Cut (F:Rg)(U:Hp):Rg:=λb=>F b/\b<U.size
theorem dM.cut {P:Hp->Rg->Prop}(hl:dM P){F:Rg}(h:P U F):P U (Cut F U):=hl.mono h λb d a=>⟨a,d⟩
theorem Ext.cut {F:Rg}{σ':Hp}(e:Ext (Cut F U) U σ'):Ext F U σ':=⟨e.1,λb d a=>e.2 b d λg=>a g.1⟩
theorem Ext.sub {F G:Rg}{a b:Hp}(e:Ext F a b)(h:∀i,F i->G i):Ext G a b:=e.mono λi _ d=>h i d
theorem Qo.ext {h h':Hp}{r:Nat}(ho:Qo h h' r):Ext (· = r) h h':=Ext.eL ho rfl
theorem Ext.ju {F:Rg}{a b c:Hp}(e:Ext F a b)(k:Ext (Grow F a) b c):Ext F a c:=
 ⟨zh e.1 k.1,λi g d=>(k.2 i (tZ g e.1) λj=>by rcases j with h|h;exact d h;omega).trans (e.2 i g d)⟩
theorem Ext.dT {F G:Rg}{a b c:Hp}(e:Ext F a b)(k:Ext G b c)(h:∀i,G i->F i\/a.size<=i):Ext F a c:=e.ju (k.sub h)
theorem py {P:Program}{f:Nat}{first caps:Array Value}{args:List Value}{all:Array Value}{rs:List SK}{R:eN (eU rs)}(hok:VJ P f=true)(he:first++args.toArray++caps=all)
 (hc:Wc P f all rs U R):VM P ⟨f,first,caps⟩ args rs U R:=⟨hok,by unfold Cm;simp only;rw[he];exact hc⟩
theorem Q6 {h h':Hp}{F:Nat->Prop}(e:Ext F h h'){b o:Nat}(hb:b<h.size)(hF:¬F b):cell h' ⟨b,o,none⟩=cell h ⟨b,o,none⟩:=by
 unfold cell;rw[e.2 b hb hF]
theorem Lo {h h':Hp}{l:Sl}{xs:List (Int×Int×Int)}{F:Nat->Prop}(ha:ie h l xs)(e:Ext F h h')(hF:∀b,F b->∀o,l.a≠some ⟨b,o,none⟩):ie h' l xs:=by
 refine⟨ha.1,λi x y z r=>?_⟩;obtain⟨b,o,j,d,s,m,u⟩:=ha.2 i x y z r;have g:¬F b:=λp=>hF b p o j;exact⟨b,o,j,tZ d e.1,by rw[Q6 e d g];exact s,by rw[Q6 e d g];exact m,by rw[Q6 e d g];exact u⟩
theorem ZQ {h h':Hp}{l:Sl}{xs:List (Int×Int×Int)}(ha:ie h l xs)(e:bK h h'):ie h' l xs:=Lo ha e λ_ h=>h.elim
theorem xq {h:Hp}{l:Sl}{xs:List (Int×Int×Int)}(ha:ie h l xs){i:Nat}{x y z:Int}(hx:xs[i]?=some (x,y,z)){K:Int->Int->Int->Prop}(hK:K x y z) :
 Ix l.a l.len (i:Int) 3 λa=>gA .i64 (a.add 0) h λu=>gA .i64 (a.add 1) h λv=>gA .i64 (a.add 2) h λw=>K u v w:=by
 obtain⟨b,o,e,p,g,d,j⟩:=ha.2 i x y z hx;have m:=(cV.1 hx).1;rw[e];refine ix O (by rw[ha.1];omega) ?_;rw[add_lit];refine fU (by simpa using g) (fU (by simpa using d) (fU (by simpa using j) hK))
end Go.Vc
namespace Go.Proofs
open Go.Vc
abbrev _root_.R1:=@Wc Tryz.prog
abbrev _root_.R2:=Option Addr
def WN.c (a b c d e f:Int)(g:Sl)(h:Hp)(i:aO):Prop:=R1 6 #[.agg #[.I a,.I b,.I c,.I d,.I e,.I f],.slice g.a g.len g.cap] [.one .b] h i
def XI.c (a b c d e f:Int)(g:Sl)(h:Int)(i:Hp)(j:Option Addr->Hp->Prop):Prop:=R1 11 #[.agg #[.I a,.I b,.I c,.I d,.I e,.I f],.slice g.a g.len g.cap,.I h] [.one .p] i j
def XK.c (a:Sl)(b:Int)(c:Hp)(d:aO):Prop:=R1 12 #[.slice a.a a.len a.cap,.I b] [.one .b] c d
def Xc.c (a:Hp)(b:aO):Prop:=R1 13 #[] [.one .b] a b
def Xm.c (a:R2)(b c d:Int)(e:Hp)(f:Int->Int->Hp->Prop):Prop:=R1 14 #[.pointer a,.I b,.I c,.I d] [.I,.I] e f
def YK.c (a:Int)(b:Hp)(c:aN):Prop:=R1 15 #[.I a] [.I] b c
def YP.c (a:R2)(b:Int)(c:Hp)(d:Int->Int->Hp->Prop):Prop:=R1 16 #[.pointer a,.I b] [.I,.I] c d
def Xk.c (a:R2)(b c:Int)(d:Hp)(e:aN):Prop:=R1 17 #[.pointer a,.I b,.I c] [.I] d e
def YL.c (a:Sl)(b c d e f g h:Int)(i:ByteArray)(j:Hp)(k:aN):Prop:=R1 18 #[.slice a.a a.len a.cap,.agg #[.I b,.I c,.I d,.I e,.I f,.I g,.I h,.string i]] [.I] j k
def Xe.c (a:R2)(b c d e f g h:Int)(i:ByteArray)(j:Hp)(k:aN):Prop:=R1 19 #[.pointer a,.agg #[.I b,.I c,.I d,.I e,.I f,.I g,.I h,.string i]] [.I] j k
def YI.c (a:R2)(b:Hp)(c:Sl->Hp->Prop):Prop:=R1 20 #[.pointer a] [.one .s] b c
def Xw.c (a:R2)(b:Int)(c:Hp)(d:Sl->Int->Hp->Prop):Prop:=R1 21 #[.pointer a,.I b] [.one .s,.I] c d
def Yl.c (a:R2)(b:Hp)(c:Sl->Hp->Prop):Prop:=R1 22 #[.pointer a] [.one .s] b c
def YO.c (a:R2)(b:Int)(c:Hp)(d:Int->Int->Int->Int->Int->Hp->Prop):Prop:=R1 23 #[.pointer a,.I b] [.agg [bN,bN,bN,bN],.I] c d
def YB.c (a:R2)(b:Hp)(c:Option Addr->Hp->Prop):Prop:=R1 24 #[.pointer a] [.one .p] b c
def Xf.c (a:R2)(b:Int)(c:Hp)(d:Int->Int->Hp->Prop):Prop:=R1 25 #[.pointer a,.I b] [.I,.I] c d
def W8.c (a:R2)(b c:Int)(d:Hp)(e:aN):Prop:=R1 27 #[.pointer a,.I b,.I c] [.I] d e
def Xg.c (a:R2)(b c:Int)(d:Hp)(e:aN):Prop:=R1 29 #[.pointer a,.I b,.I c] [.I] d e
def XG.c (a b:Sl)(c:Hp)(d:aO):Prop:=R1 30 #[.slice a.a a.len a.cap,.slice b.a b.len b.cap] [.one .b] c d
def Qw.c (a:R2)(b:Hp)(c:Option Addr->Int->Hp->Prop):Prop:=R1 33 #[.pointer a] [.one .p,.I] b c
def Xq.c (a:Hp)(b:Option Addr->Hp->Prop):Prop:=R1 37 #[] [.one .p] a b
def WH.c (a b c d e f:Int)(g:Hp)(h:aO):Prop:=R1 38 #[.agg #[.I a,.I b,.I c,.I d,.I e,.I f]] [.one .b] g h
def Xs.c (a b c d e f:Int)(g:Hp)(h:Option Addr->Hp->Prop):Prop:=R1 39 #[.agg #[.I a,.I b,.I c,.I d,.I e,.I f]] [.one .p] g h
def WE.c (a:R2)(b:Hp)(c:aO):Prop:=R1 42 #[.pointer a] [.one .b] b c
def YG.c (a:R2)(b c d:Int)(e:Hp)(f:Int->Int->Hp->Prop):Prop:=R1 43 #[.pointer a,.I b,.I c,.I d] [.I,.I] e f
def Xj.c (a b c d e:Int)(f:Hp)(g:aN):Prop:=R1 44 #[.agg #[.I a,.I b,.I c,.I d,.I e]] [.I] f g
def XB.c (a b c d e:Int)(f:Hp)(g:Fv->Hp->Prop):Prop:=R1 45 #[.agg #[.I a,.I b,.I c,.I d,.I e]] [.one .fn] f g
def ZD.c (a:Int)(b:Hp)(c:aN):Prop:=R1 46 #[.I a] [.I] b c
def XY.c (a:R2)(b c d e f g:Int)(h:Hp)(i:aP):Prop:=R1 47 #[.pointer a,.agg #[.I b,.I c,.I d,.I e,.I f],.I g] [] h i
def XX.c (a:R2)(b:Int)(c:Hp)(d:aN):Prop:=R1 48 #[.pointer a,.I b] [.I] c d
def YC.c (a:R2)(b:Int)(c:Hp)(d:Int->Int->Hp->Prop):Prop:=R1 49 #[.pointer a,.I b] [.I,.I] c d
def Vs.c (a:Fv)(b:Hp)(c:Sl->Hp->Prop):Prop:=R1 50 #[.func (.func a.f) a.first a.captured] [.one .s] b c
def Ze.c (a:Option Nat)(b:Hp)(c:Fv->Hp->Prop):Prop:=R1 51 #[.map a] [.one .fn] b c
def W3.c (a:R2)(b c d e f:Int)(g:Hp)(h:aO):Prop:=R1 52 #[.pointer a,.agg #[.I b,.I c,.I d,.I e,.I f]] [.one .b] g h
def W5.c (a:R2)(b c d e f:Int)(g:Hp)(h:Sl->Hp->Prop):Prop:=R1 53 #[.pointer a,.agg #[.I b,.I c,.I d,.I e,.I f]] [.one .s] g h
def KM.c (a:Sl)(b:Hp)(c:aP):Prop:=R1 54 #[.slice a.a a.len a.cap] [] b c
def WT.c (a:Sl)(b:Hp)(c:Sl->Hp->Prop):Prop:=R1 55 #[.slice a.a a.len a.cap] [.one .s] b c
def Y3.c (a:R2)(b:Int)(c:Fv)(d:Hp)(e:Int->Int->Int->Int->Int->Bool->Hp->Prop):Prop:=R1 56 #[.pointer a,.I b,.func (.func c.f) c.first c.captured] [.agg [bN,bN,bN,bN,bN],.one .b] d e
def Yt.c (a b c d e:Int)(f:Hp)(g:aN):Prop:=R1 57 #[.agg #[.I a,.I b,.I c,.I d,.I e]] [.I] f g
def Xr.c (a:R2)(b:Hp)(c:aO):Prop:=R1 58 #[.pointer a] [.one .b] b c
def Yv.c (a:R2)(b:Hp)(c:Option Addr->Hp->Prop):Prop:=R1 61 #[.pointer a] [.one .p] b c
def Yg.c (a:R2)(b c:Int)(d:Hp)(e:aN):Prop:=R1 62 #[.pointer a,.I b,.I c] [.I] d e
def XU.c (a:R2)(b c:Int)(d:Bool)(e:Hp)(f:aN):Prop:=R1 63 #[.pointer a,.I b,.I c,.bool d] [.I] e f
def Qm.c (a:R2)(b:Hp)(c:aO):Prop:=R1 65 #[.pointer a] [.one .b] b c
def Wv.c (a b c d e f:Int)(g:Hp)(h:Option Addr->Hp->Prop):Prop:=R1 69 #[.agg #[.I a,.I b,.I c,.I d,.I e,.I f]] [.one .p] g h
def Zj.c (a:R2)(b c:Int)(d:Hp)(e:aN):Prop:=R1 70 #[.pointer a,.I b,.I c] [.I] d e
def YW.c (a:R2)(b c d e f:Int)(g:Hp)(h:aN):Prop:=R1 72 #[.pointer a,.I b,.agg #[.I c,.I d,.I e,.I f]] [.I] g h
def Y1.c (a:R2)(b:Int)(c:Hp)(d:Bool->Int->Int->Int->Hp->Prop):Prop:=R1 73 #[.pointer a,.I b] [.one .b,.agg [bN,bN],.I] c d
def XC.c (a:R2)(b:Hp)(c:aN):Prop:=R1 79 #[.pointer a] [.I] b c
def XR.c (a:R2)(b c d e f:Int)(g:Hp)(h:Int->Int->Hp->Prop):Prop:=R1 81 #[.pointer a,.I b,.agg #[.I c,.I d,.I e,.I f]] [.I,.I] g h
def YF.c (a:R2)(b:Int)(c:Hp)(d:Int->Int->Hp->Prop):Prop:=R1 83 #[.pointer a,.I b] [.I,.I] c d
def Vb.c (a:Fv)(b:Hp)(c:Sl->Hp->Prop):Prop:=R1 84 #[.func (.func a.f) a.first a.captured] [.one .s] b c
def Z0.c (a:Fv)(b:Addr)(c:Hp)(d:aP):Prop:=R1 85 #[.func (.func a.f) a.first a.captured,.pointer (some b)] [] c d
def Xl.c (a:R2)(b c:Int)(d:Hp)(e:aN):Prop:=R1 88 #[.pointer a,.I b,.I c] [.I] d e
def Y6.c (a:R2)(b c:Int)(d:Hp)(e:aP):Prop:=R1 89 #[.pointer a,.I b,.I c] [] d e
def Yd.c (a:R2)(b:Int)(c:Hp)(d:aN):Prop:=R1 90 #[.pointer a,.I b] [.I] c d
def Qd.c (a:Fv)(b:Addr)(c:Hp)(d:aP):Prop:=R1 91 #[.func (.func a.f) a.first a.captured,.pointer (some b)] [] c d
def XZ.c (a:R2)(b:Hp)(c:Int->Int->Int->Int->Int->Hp->Prop):Prop:=R1 92 #[.pointer a] [.agg [bN,bN,bN,bN,bN]] b c
def Wi.c (a:Sl)(b:Hp)(c:Sl->Hp->Prop):Prop:=R1 93 #[.slice a.a a.len a.cap] [.one .s] b c
def WC.c (a:Sl)(b:Hp)(c:Sl->Hp->Prop):Prop:=R1 98 #[.slice a.a a.len a.cap] [.one .s] b c
def WP.c (a:Int)(b:Hp)(c:Sl->Int->Hp->Prop):Prop:=R1 100 #[.I a] [.one .s,.I] b c
def Ko.c (a:Sl)(b c d e f:Int)(g:Hp)(h:Option Addr->Int->Hp->Prop):Prop:=R1 101 #[.slice a.a a.len a.cap,.agg #[.I b,.I c,.I d,.I e,.I f]] [.one .p,.I] g h
def XP.c (a:R2)(b:Int)(c:Hp)(d:aO):Prop:=R1 102 #[.pointer a,.I b] [.one .b] c d
def Yh.c (a:R2)(b c d e:Int)(f:Hp)(g:Value->Hp->Prop):Prop:=R1 103 #[.pointer a,.agg #[.I b,.I c,.I d,.I e]] [.one .raw] f g
def Zk.c (a:R2)(b:Int)(c:Value)(d:Hp)(e:Value->Int->Int->Hp->Prop):Prop:=R1 104 #[.pointer a,.I b,c] [.one .raw,.agg [bN,bN]] d e
def Xy.c (a:R2)(b:Hp)(c:aN):Prop:=R1 108 #[.pointer a] [.I] b c
def Xu.c (a:R2)(b:Hp)(c:aO):Prop:=R1 109 #[.pointer a] [.one .b] b c
def W4.c (a:R2)(b:Hp)(c:aO):Prop:=R1 110 #[.pointer a] [.one .b] b c
def W6.c (a:R2)(b:Hp)(c:aO):Prop:=R1 111 #[.pointer a] [.one .b] b c
def YT.c (a:R2)(b:Int)(c:Hp)(d:aN):Prop:=R1 117 #[.pointer a,.I b] [.I] c d
def Wj.c (a:Sl)(b c:Bool)(d:Hp)(e:aO):Prop:=R1 130 #[.slice a.a a.len a.cap,.agg #[.bool b,.bool c]] [.one .b] d e
def YV.c (a:R2)(b:Int)(c:Hp)(d:ByteArray->Hp->Prop):Prop:=R1 131 #[.pointer a,.I b] [.one .str] c d
def Xd.c (a b:Int)(c:Hp)(d:Int->Int->Int->Hp->Prop):Prop:=R1 137 #[.I a,.I b] [.agg [bN,bN,bN]] c d
def XH.c (a b:Int)(c:Hp)(d:aN):Prop:=R1 138 #[.I a,.I b] [.I] c d
def WL.c (a b c:Int)(d:Hp)(e:aN):Prop:=R1 139 #[.agg #[.I a,.I b,.I c]] [.I] d e
def Zv.c (a:Sl)(b:Hp)(c:aO):Prop:=R1 140 #[.slice a.a a.len a.cap] [.one .b] b c
def Qk.c (a b c d e:Int)(f:Hp)(g:aO):Prop:=R1 141 #[.agg #[.I a,.I b,.I c,.I d,.I e]] [.one .b] f g
def QL.c (a:Int)(b:Hp)(c:Option Addr->Int->Hp->Prop):Prop:=R1 142 #[.I a] [.one .p,.I] b c
def QO.c (a:Sl)(b:R2)(c:Int)(d:Hp)(e:Option Addr->Int->Hp->Prop):Prop:=R1 143 #[.slice a.a a.len a.cap,.pointer b,.I c] [.one .p,.I] d e
def QN.c (a:Sl)(b:Int)(c:Hp)(d:Option Addr->Int->Hp->Prop):Prop:=R1 144 #[.slice a.a a.len a.cap,.I b] [.one .p,.I] c d
def Z7.c (a:Sl)(b c:Int)(d:Hp)(e:Int->Int->Hp->Prop):Prop:=R1 145 #[.slice a.a a.len a.cap,.I b,.I c] [.I,.I] d e
def Zp.c (a:R2)(b:Int)(c:Hp)(d:aN):Prop:=R1 146 #[.pointer a,.I b] [.I] c d
def XV.c (a:R2)(b:Int)(c:Hp)(d:Int->Int->Hp->Prop):Prop:=R1 147 #[.pointer a,.I b] [.I,.I] c d
def Yz.c (a:R2)(b c d:Int)(e:Hp)(f:Value->Int->Int->Hp->Prop):Prop:=R1 148 #[.pointer a,.I b,.I c,.I d] [.one .raw,.agg [bN,bN]] e f
def X4.c (a:R2)(b:Int)(c:Hp)(d:Int->Int->Hp->Prop):Prop:=R1 149 #[.pointer a,.I b] [.I,.I] c d
def WA.c (a:R2)(b:Int)(c:Hp)(d:Sl->Int->Hp->Prop):Prop:=R1 150 #[.pointer a,.I b] [.one .s,.I] c d
def Ye.c (a:R2)(b c:Int)(d:Sl)(e:Hp)(f:aP):Prop:=R1 151 #[.pointer a,.I b,.I c,.slice d.a d.len d.cap] [] e f
def WB.c (a:R2)(b c:Int)(d:Hp)(e:Sl->Int->Hp->Prop):Prop:=R1 152 #[.pointer a,.I b,.I c] [.one .s,.I] d e
def X2.c (a:R2)(b:Int)(c:Hp)(d:aN):Prop:=R1 153 #[.pointer a,.I b] [.I] c d
def X3.c (a:R2)(b:Int)(c:Sl)(d:Hp)(e:aN):Prop:=R1 154 #[.pointer a,.I b,.slice c.a c.len c.cap] [.I] d e
def WJ.c (a:R2)(b c:Int)(d:Hp)(e:Int->Int->Hp->Prop):Prop:=R1 155 #[.pointer a,.I b,.I c] [.I,.I] d e
def Zn.c (a:R2)(b c:Int)(d:Hp)(e:Value->Int->Int->Hp->Prop):Prop:=R1 156 #[.pointer a,.I b,.I c] [.one .raw,.agg [bN,bN]] d e
def Yu.c (a:R2)(b c:Int)(d:Hp)(e:Sl->Int->Hp->Prop):Prop:=R1 157 #[.pointer a,.I b,.I c] [.one .s,.I] d e
def X8.c (a:R2)(b:Hp)(c:aO):Prop:=R1 158 #[.pointer a] [.one .b] b c
def WX.c (a:R2)(b:Hp)(c:Sl->Hp->Prop):Prop:=R1 159 #[.pointer a] [.one .s] b c
def WU.c (a:R2)(b:Int)(c:Hp)(d:Value->Hp->Prop):Prop:=R1 160 #[.pointer a,.I b] [.one .raw] c d
def Wq.c (a:Sl)(b:Hp)(c:Sl->Hp->Prop):Prop:=R1 161 #[.slice a.a a.len a.cap] [.one .s] b c
def Zm.c (a:R2)(b c:Int)(d:Sl)(e:Hp)(f:aP):Prop:=R1 162 #[.pointer a,.I b,.agg #[.I c,.slice d.a d.len d.cap]] [] e f
def WM.c (a:R2)(b:Int)(c:Hp)(d:aN):Prop:=R1 163 #[.pointer a,.I b] [.I] c d
def XD.c (a:R2)(b:Hp)(c:Sl->Hp->Prop):Prop:=R1 164 #[.pointer a] [.one .s] b c
def XT.c (a:R2)(b:Sl)(c:Hp)(d:aP):Prop:=R1 165 #[.pointer a,.slice b.a b.len b.cap] [] c d
def XJ.c (a:R2)(b:Hp)(c:Sl->Hp->Prop):Prop:=R1 166 #[.pointer a] [.one .s] b c
def WK.c (a:R2)(b:Int)(c:Sl)(d:Hp)(e:aN):Prop:=R1 175 #[.pointer a,.I b,.slice c.a c.len c.cap] [.I] d e
def Qv.c (a b c:Int)(d:Hp)(e:aO):Prop:=R1 176 #[.agg #[.I a,.I b,.I c]] [.one .b] d e
def Zz.c (a b c:Int)(d:Hp)(e:aN):Prop:=R1 177 #[.agg #[.I a,.I b,.I c]] [.I] d e
def WG.c (a:R2)(b:Hp)(c:aO):Prop:=R1 178 #[.pointer a] [.one .b] b c
def Zy.c (a:R2)(b:Hp)(c:Int->Int->Hp->Prop):Prop:=R1 179 #[.pointer a] [.agg [bN,bN]] b c
def Xb.c (a:R2)(b:Hp)(c:aO):Prop:=R1 180 #[.pointer a] [.one .b] b c
def Yk.c (a:R2)(b:Hp)(c:aN):Prop:=R1 182 #[.pointer a] [.I] b c
def X5.c (a:R2)(b:Hp)(c:aO):Prop:=R1 183 #[.pointer a] [.one .b] b c
def Wn.c (a:Sl)(b c:Bool)(d:Hp)(e:aN):Prop:=R1 190 #[.slice a.a a.len a.cap,.agg #[.bool b,.bool c]] [.I] d e
def Xh.c (a:R2)(b:Hp)(c:aO):Prop:=R1 191 #[.pointer a] [.one .b] b c
def Xt.c (a:R2)(b:Hp)(c:aO):Prop:=R1 192 #[.pointer a] [.one .b] b c
def Z5.c (a:Hp)(b:Option Addr->Hp->Prop):Prop:=R1 193 #[] [.one .p] a b
def Yy.c (a:R2)(b c d:Int)(e:Hp)(f:aN):Prop:=R1 195 #[.pointer a,.I b,.I c,.I d] [.I] e f
def QM.c (a:Int)(b:Hp)(c:Option Addr->Int->Hp->Prop):Prop:=R1 197 #[.I a] [.one .p,.I] b c
def Kr.c (a:Int)(b:Hp)(c:Option Addr->Int->Hp->Prop):Prop:=R1 198 #[.I a] [.one .p,.I] b c
def Z6.c (a b c:Int)(d:Hp)(e:Option Addr->Int->Hp->Prop):Prop:=R1 199 #[.agg #[.I a,.I b,.I c]] [.one .p,.I] d e
def ZL.c (a b:Int)(c:Hp)(d:Option Addr->Int->Hp->Prop):Prop:=R1 200 #[.I a,.I b] [.one .p,.I] c d
def Z4.c (a:Int)(b:Hp)(c:aN):Prop:=R1 201 #[.I a] [.I] b c
def Wl.c (a:Sl)(b:Fv)(c:Hp)(d:aN):Prop:=R1 202 #[.slice a.a a.len a.cap,.func (.func b.f) b.first b.captured] [.I] c d
def ZN.c (a b c:Int)(d e:Addr)(f:Hp)(g:aO):Prop:=R1 203 #[.agg #[.I a,.I b,.I c],.pointer (some d),.pointer (some e)] [.one .b] f g
def Xi.c (a:R2)(b:Int)(c:Hp)(d:Option Addr->Int->Hp->Prop):Prop:=R1 204 #[.pointer a,.I b] [.one .p,.I] c d
def X7.c (a:R2)(b:Int)(c:Hp)(d:aN):Prop:=R1 205 #[.pointer a,.I b] [.I] c d
def WO.c (a:R2)(b:Int)(c:Hp)(d:aN):Prop:=R1 206 #[.pointer a,.I b] [.I] c d
def Wz.c (a:R2)(b:Hp)(c:Sl->Int->Hp->Prop):Prop:=R1 207 #[.pointer a] [.one .s,.I] b c
def WZ.c (a:R2)(b:Int)(c:Hp)(d:Sl->Int->Hp->Prop):Prop:=R1 208 #[.pointer a,.I b] [.one .s,.I] c d
def Yx.c (a:R2)(b c d:Int)(e:Hp)(f:Int->Int->Hp->Prop):Prop:=R1 209 #[.pointer a,.I b,.I c,.I d] [.I,.I] e f
def YN.c (a:R2)(b:Int)(c:Hp)(d:aN):Prop:=R1 210 #[.pointer a,.I b] [.I] c d
def WR.c (a:Sl)(b:Hp)(c:aP):Prop:=R1 211 #[.slice a.a a.len a.cap] [] b c
def WS.c (a:R2)(b:Sl)(c:Hp)(d:aN):Prop:=R1 212 #[.pointer a,.slice b.a b.len b.cap] [.I] c d
def YD.c (a:R2)(b:Int)(c:Hp)(d:Int->Int->Int->Hp->Prop):Prop:=R1 213 #[.pointer a,.I b] [.I,.I,.I] c d
def W0.c (a:R2)(b:Int)(c:Hp)(d:Sl->Hp->Prop):Prop:=R1 214 #[.pointer a,.I b] [.one .s] c d
def W9.c (a:R2)(b:Fv)(c:Hp)(d:Sl->Hp->Prop):Prop:=R1 215 #[.pointer a,.func (.func b.f) b.first b.captured] [.one .s] c d
def Xn.c (a:R2)(b:Int)(c:Hp)(d:Sl->Hp->Prop):Prop:=R1 216 #[.pointer a,.I b] [.one .s] c d
def WF.c (a:R2)(b:Int)(c:Sl)(d:Hp)(e:Bool->Int->Hp->Prop):Prop:=R1 217 #[.pointer a,.I b,.slice c.a c.len c.cap] [.one .b,.I] d e
def Yn.c (a:R2)(b:Int)(c:Hp)(d:Sl->Hp->Prop):Prop:=R1 218 #[.pointer a,.I b] [.one .s] c d
def Xx.c (a:R2)(b c:Int)(d:Hp)(e:aN):Prop:=R1 219 #[.pointer a,.I b,.I c] [.I] d e
def Xo.c (a:R2)(b c:Int)(d:Hp)(e:aN):Prop:=R1 220 #[.pointer a,.I b,.I c] [.I] d e
def X6.c (a:R2)(b c:Int)(d:Hp)(e:aN):Prop:=R1 221 #[.pointer a,.I b,.I c] [.I] d e
def We.c (a:Sl)(b:Fv)(c:Hp)(d:Sl->Hp->Prop):Prop:=R1 222 #[.slice a.a a.len a.cap,.func (.func b.f) b.first b.captured] [.one .s] c d
def XM.c (a b:Int)(c:R2)(d:Addr)(e:Hp)(f:aO):Prop:=R1 223 #[.agg #[.I a,.I b,.pointer c],.pointer (some d)] [.one .b] e f
def YA.c (a:R2)(b:Hp)(c:aN):Prop:=R1 224 #[.pointer a] [.I] b c
def Y7.c (a:R2)(b:Int)(c:Hp)(d:Sl->Hp->Prop):Prop:=R1 226 #[.pointer a,.I b] [.one .s] c d
def XE.c (a:R2)(b c d:Int)(e:Sl)(f:Hp)(g:aN):Prop:=R1 230 #[.pointer a,.I b,.I c,.I d,.slice e.a e.len e.cap] [.I] f g
def Yi.c (a:R2)(b:Int)(c:Hp)(d:Sl->Int->Hp->Prop):Prop:=R1 233 #[.pointer a,.I b] [.one .s,.I] c d
def Qh.c (a:Sl)(b:Int)(c:Hp)(d:aP):Prop:=R1 235 #[.slice a.a a.len a.cap,.I b] [] c d
def YQ.c (a:R2)(b c:Int)(d:Hp)(e:aN):Prop:=R1 236 #[.pointer a,.I b,.I c] [.I] d e
def Yc.c (a:R2)(b:Int)(c:Hp)(d:aO):Prop:=R1 237 #[.pointer a,.I b] [.one .b] c d
def Zh.c (a:R2)(b c:Int)(d:Hp)(e:aP):Prop:=R1 238 #[.pointer a,.I b,.I c] [] d e
def YE.c (a:R2)(b:Sl)(c:Hp)(d:Sl->Int->Hp->Prop):Prop:=R1 241 #[.pointer a,.slice b.a b.len b.cap] [.one .s,.I] c d
def Yb.c (a:R2)(b:Hp)(c:aO):Prop:=R1 242 #[.pointer a] [.one .b] b c
def YZ.c (a:R2)(b:Int)(c:Hp)(d:aN):Prop:=R1 245 #[.pointer a,.I b] [.I] c d
def YU.c (a:R2)(b c:Int)(d:Hp)(e:aP):Prop:=R1 246 #[.pointer a,.I b,.I c] [] d e
def Zq.c (a b c:Int)(d:Hp)(e:Int->Int->Hp->Prop):Prop:=R1 247 #[.agg #[.I a,.I b,.I c]] [.I,.I] d e
def Zl.c (a:R2)(b:Int)(c:Hp)(d:Option Addr->Hp->Prop):Prop:=R1 248 #[.pointer a,.I b] [.one .p] c d
def Wk.c (a:Sl)(b:Fv)(c:Hp)(d:aN):Prop:=R1 249 #[.slice a.a a.len a.cap,.func (.func b.f) b.first b.captured] [.I] c d
def YS.c (a:R2)(b:Addr)(c:Hp)(d:aO):Prop:=R1 250 #[.pointer a,.pointer (some b)] [.one .b] c d
def YJ.c (a:R2)(b:Int)(c:Hp)(d:aO):Prop:=R1 251 #[.pointer a,.I b] [.one .b] c d
def YM.c (a:R2)(b:Hp)(c:Int->Bool->Hp->Prop):Prop:=R1 252 #[.pointer a] [.I,.one .b] b c
def Xz.c (a:R2)(b c:Int)(d:Hp)(e:Int->Int->Hp->Prop):Prop:=R1 253 #[.pointer a,.I b,.I c] [.I,.I] d e
def YH.c (a:R2)(b:Int)(c:Hp)(d:aO):Prop:=R1 254 #[.pointer a,.I b] [.one .b] c d
def Xv.c (a:R2)(b c:Int)(d:Hp)(e:aN):Prop:=R1 255 #[.pointer a,.I b,.I c] [.I] d e
def XS.c (a:R2)(b c d:Int)(e:Hp)(f:aN):Prop:=R1 256 #[.pointer a,.I b,.I c,.I d] [.I] e f
def Kq.c (a b c d:Int)(e:Hp)(f:Option Addr->Int->Hp->Prop):Prop:=R1 257 #[.I a,.agg #[.I b,.I c,.I d]] [.one .p,.I] e f
def Wb.c (a:Sl)(b:Int)(c:Fv)(d:Hp)(e:Int->Bool->Hp->Prop):Prop:=R1 258 #[.slice a.a a.len a.cap,.I b,.func (.func c.f) c.first c.captured] [.I,.one .b] d e
def Yw.c (a b:Int)(c:R2)(d:Int)(e:Hp)(f:aN):Prop:=R1 259 #[.agg #[.I a,.I b,.pointer c],.I d] [.I] e f
def Wg.c (a:Sl)(b:Int)(c:Sl)(d:Hp)(e:Sl->Hp->Prop):Prop:=R1 260 #[.slice a.a a.len a.cap,.I b,.slice c.a c.len c.cap] [.one .s] d e
def Xa.c (a:Sl)(b:Hp)(c:Sl->Hp->Prop):Prop:=R1 261 #[.slice a.a a.len a.cap] [.one .s] b c
def Yf.c (a:R2)(b:Int)(c:Hp)(d:Int->Int->Hp->Prop):Prop:=R1 262 #[.pointer a,.I b] [.I,.I] c d
def ZR.c (a:Sl)(b:Fv)(c:Hp)(d:aP):Prop:=R1 263 #[.slice a.a a.len a.cap,.func (.func b.f) b.first b.captured] [] c d
def WW.c (a:R2)(b:Int)(c:Hp)(d:Bool->Int->Hp->Prop):Prop:=R1 265 #[.pointer a,.I b] [.one .b,.I] c d
def WY.c (a:R2)(b:Sl)(c:Hp)(d:Bool->Int->Hp->Prop):Prop:=R1 266 #[.pointer a,.slice b.a b.len b.cap] [.one .b,.I] c d
def XQ.c (a:R2)(b c:Int)(d:Hp)(e:aP):Prop:=R1 267 #[.pointer a,.I b,.I c] [] d e
def Wh.c (a:Sl)(b:Fv)(c:Hp)(d:aN):Prop:=R1 268 #[.slice a.a a.len a.cap,.func (.func b.f) b.first b.captured] [.I] c d
def Wx.c (a:Sl)(b:Fv)(c:Hp)(d:aO):Prop:=R1 270 #[.slice a.a a.len a.cap,.func (.func b.f) b.first b.captured] [.one .b] c d
def Yo.c (a:Int)(b:Addr)(c:Hp)(d:aO):Prop:=R1 271 #[.I a,.pointer (some b)] [.one .b] c d
def Wp.c (a:Sl)(b:Int)(c:Hp)(d:aO):Prop:=R1 272 #[.slice a.a a.len a.cap,.I b] [.one .b] c d
def YX.c (a:R2)(b c:Int)(d:Hp)(e:Sl->Int->Hp->Prop):Prop:=R1 273 #[.pointer a,.I b,.I c] [.one .s,.I] d e
def YY.c (a:R2)(b c:Int)(d e:Bool)(f:Hp)(g:aP):Prop:=R1 274 #[.pointer a,.I b,.I c,.agg #[.bool d,.bool e]] [] f g
def Xp.c (a:R2)(b:Int)(c:Hp)(d:Int->Int->Bool->Hp->Prop):Prop:=R1 275 #[.pointer a,.I b] [.I,.I,.one .b] c d
def XA.c (a:R2)(b:Int)(c:Hp)(d:Option Addr->Hp->Prop):Prop:=R1 277 #[.pointer a,.I b] [.one .p] c d
def Zo.c (a:R2)(b:Int)(c:Hp)(d:aN):Prop:=R1 278 #[.pointer a,.I b] [.I] c d
def Ww.c (a:R2)(b:Hp)(c:Option Addr->Hp->Prop):Prop:=R1 279 #[.pointer a] [.one .p] b c
def Wy.c (a:R2)(b:Hp)(c:Option Addr->Hp->Prop):Prop:=R1 280 #[.pointer a] [.one .p] b c
def XF.c (a:R2)(b:Int)(c:Hp)(d:aN):Prop:=R1 281 #[.pointer a,.I b] [.I] c d
def WV.c (a b c d:Int)(e:Hp)(f:aO):Prop:=R1 282 #[.agg #[.I a,.I b],.agg #[.I c,.I d]] [.one .b] e f
def Zi.c (a:R2)(b:Hp)(c:Int->Int->Hp->Prop):Prop:=R1 283 #[.pointer a] [.I,.I] b c
def XL.c (a:Sl)(b:Hp)(c:aN):Prop:=R1 284 #[.slice a.a a.len a.cap] [.I] b c
def Z9.c (a:Option Nat)(b:Hp)(c:Fv->Hp->Prop):Prop:=R1 285 #[.map a] [.one .fn] b c
def Y4.c (a:R2)(b c:Int)(d:Hp)(e:aN):Prop:=R1 286 #[.pointer a,.I b,.I c] [.I] d e
def X1.c (a:R2)(b:Int)(c:Hp)(d:aN):Prop:=R1 287 #[.pointer a,.I b] [.I] c d
def Kd.c (a:Sl)(b:Int)(c:Hp)(d:aP):Prop:=R1 289 #[.slice a.a a.len a.cap,.I b] [] c d
def XW.c (a:R2)(b:Int)(c:Hp)(d:Int->Int->Hp->Prop):Prop:=R1 290 #[.pointer a,.I b] [.I,.I] c d
def Yj.c (a:R2)(b:Int)(c:Hp)(d:Bool->Int->Hp->Prop):Prop:=R1 292 #[.pointer a,.I b] [.one .b,.I] c d
def Y5.c (a:R2)(b c:Int)(d:Hp)(e:aP):Prop:=R1 293 #[.pointer a,.I b,.I c] [] d e
def WQ.c (a:Sl)(b:Fv)(c:Hp)(d:aN):Prop:=R1 302 #[.slice a.a a.len a.cap,.func (.func b.f) b.first b.captured] [.I] c d
def WD.c (a:Sl)(b:Int)(c:Hp)(d:aN):Prop:=R1 303 #[.slice a.a a.len a.cap,.I b] [.I] c d
def X0.c (a:R2)(b:Int)(c:Hp)(d:Int->Int->Hp->Prop):Prop:=R1 304 #[.pointer a,.I b] [.I,.I] c d
def Y8.c (a:R2)(b:Int)(c:Sl)(d:Hp)(e:aP):Prop:=R1 305 #[.pointer a,.I b,.slice c.a c.len c.cap] [] d e
def Ym.c (a:R2)(b:Int)(c:Hp)(d:aN):Prop:=R1 306 #[.pointer a,.I b] [.I] c d
def QW.c (a:Fv)(b:Addr)(c:Hp)(d:aP):Prop:=R1 307 #[.func (.func a.f) a.first a.captured,.pointer (some b)] [] c d
def Wf.c (a:Sl)(b:Fv)(c:Hp)(d:aO):Prop:=R1 308 #[.slice a.a a.len a.cap,.func (.func b.f) b.first b.captured] [.one .b] c d
def Yq.c (a b:Bool)(c:Hp)(d:aO):Prop:=R1 309 #[.agg #[.bool a,.bool b]] [.one .b] c d
def Wm.c (a:Sl)(b:Fv)(c:Hp)(d:aN):Prop:=R1 322 #[.slice a.a a.len a.cap,.func (.func b.f) b.first b.captured] [.I] c d
def ZK.c (a:Int)(b:Hp)(c:ByteArray->Hp->Prop):Prop:=R1 346 #[.agg #[.I a]] [.one .str] b c
def ZB.c (a:Int)(b:Hp)(c:ByteArray->Hp->Prop):Prop:=R1 347 #[.agg #[.I a]] [.one .str] b c
def ZJ.c (a:Int)(b:Hp)(c:ByteArray->Hp->Prop):Prop:=R1 348 #[.agg #[.I a]] [.one .str] b c
def ZC.c (a:Hp)(b:ByteArray->Hp->Prop):Prop:=R1 349 #[.agg #[]] [.one .str] a b
def YR.c (a b:Int)(c:Hp)(d:ByteArray->Hp->Prop):Prop:=R1 350 #[.agg #[.I a,.I b]] [.one .str] c d
def ZM.c (a:Hp)(b:ByteArray->Hp->Prop):Prop:=R1 351 #[.agg #[]] [.one .str] a b
def Zd.c (a b:Int)(c:Hp)(d:ByteArray->Hp->Prop):Prop:=R1 352 #[.agg #[.I a,.I b]] [.one .str] c d
def ZO.c (a b:Int)(c:Hp)(d:ByteArray->Hp->Prop):Prop:=R1 353 #[.agg #[.I a,.I b]] [.one .str] c d
def ZZ.c (a b:Int)(c:Hp)(d:ByteArray->Hp->Prop):Prop:=R1 354 #[.agg #[.I a,.I b]] [.one .str] c d
def ZP.c (a:Hp)(b:ByteArray->Hp->Prop):Prop:=R1 355 #[.agg #[]] [.one .str] a b
def ZI.c (a b:Int)(c:Hp)(d:ByteArray->Hp->Prop):Prop:=R1 356 #[.agg #[.I a,.I b]] [.one .str] c d
set_option maxRecDepth 100000
def X5.h:Hn:=.q .o1 (.q (.cR (.seq [.op,.op,.op,.cX true 5 (RI.ops 5),.op])) .l)
abbrev _root_.aQ(a:Addr)(n:Nat)(h:Hp)(K:Int->Prop):Prop:=gA .i64 (a.add n) h K
abbrev _root_.aR(a:Addr)(n:Nat)(v:Value)(h:Hp)(K:Hp->Prop):Prop:=dS (a.add n) v h K
abbrev _root_.aX(a:Addr)(n:Nat)(h:Hp)(K:Sl->Prop):Prop:=jj (a.add n) h K
abbrev _root_.aY(a:Addr)(n:Nat)(h:Hp)(K:Option Addr->Prop):Prop:=fW (a.add n) h K
abbrev _root_.aZ(a:Addr)(n:Nat)(h:Hp)(K:Bool->Prop):Prop:=lL (a.add n) h K
abbrev _root_.bA(a:Addr)(n:Nat)(h:Hp)(K:Value->Prop):Prop:=wZ (a.add n) h K
abbrev _root_.bB(a:Addr)(n:Nat)(h:Hp)(K:Option Nat->Prop):Prop:=ld (a.add n) h K
abbrev _root_.bC(a:Addr)(n:Nat)(h:Hp)(K:ByteArray->Prop):Prop:=wR (a.add n) h K
abbrev _root_.bD(p:Option Addr)(n:Nat)(h:Hp)(K:Int->Prop):Prop:=bU p λa=>gA .i64 (a.add n) h K
abbrev _root_.bE(p:Option Addr)(n:Nat)(h:Hp)(K:Sl->Prop):Prop:=bU p λa=>jj (a.add n) h K
abbrev _root_.bF(p:Option Addr)(n:Nat)(h:Hp)(K:Option Addr->Prop):Prop:=bU p λa=>fW (a.add n) h K
abbrev _root_.bG(p:Option Addr)(n:Nat)(h:Hp)(K:Bool->Prop):Prop:=bU p λa=>lL (a.add n) h K
abbrev _root_.bH(p:Option Addr)(n:Nat)(h:Hp)(K:Value->Prop):Prop:=bU p λa=>wZ (a.add n) h K
abbrev _root_.bI(p:Option Addr)(n:Nat)(h:Hp)(K:Option Nat->Prop):Prop:=bU p λa=>ld (a.add n) h K
abbrev _root_.bJ(p:Option Addr)(n:Nat)(h:Hp)(K:ByteArray->Prop):Prop:=bU p λa=>wR (a.add n) h K
abbrev _root_.aS(S:Hp->Prop)(a:Addr)(n:Nat)(K:Int->Prop):Prop:=gE S bN (a.add n) K
abbrev _root_.aT(S:Hp->Prop)(a:Addr)(n:Nat)(K:Sl->Prop):Prop:=gE S .s (a.add n) K
abbrev _root_.aU(S:Hp->Prop)(a:Addr)(n:Nat)(K:Option Addr->Prop):Prop:=gE S .p (a.add n) K
abbrev _root_.bL(e:Int)(K:Int->Prop):Prop:=Ar .i64 e K
abbrev _root_.bM(a:Addr)(h:Hp)(K:Int->Prop):Prop:=gA .i64 a h K
abbrev _root_.aV(c:Array Value)(t:Nat)(h:Hp)(K:Addr->Hp->Prop):Prop:=Nw (.cells c t (0,0)) h K
def X5.v (a:R2)(b:Hp)(c:aO):Prop:=bV (λd e=>c d e) λf=>If (!a.isNone) (bD a 0 b λh=>f (decide (h>0)) b) (f false b)
theorem X5.o {a b c}(d:X5.v a b c):X5.c a b c:=Wa Tryz.func183 (x:=X5.h) (R0 d)
def QM.h:Hn:=.q .o2 (.q (.q (.cR (.seq [.op,.op,.op,.cX false 2 [.op,.op]])) .aJ) (.q .o4 (.q (.q .o1 (.k (.loop [(5,.I)] (.q (.q .o3 (.c .l .l)) (.q (.k (.o 11)) .o3))))) (.q .o3 .l))))
def QM.v (a:Int)(b:Hp)(c:Option Addr->Int->Hp->Prop):Prop:=bV (λd e=>If d (c none 1 e) (Nw (.cells #[.I a,.slice none 0 0] 269 (0,0)) e λf g=>X9 [bN] (λh=>h 1 g) λi (j:Int) k=>If (j<=a) (bU (some f) λl=>jj (l.add 1) k λm=>Nw (.map #[] 0) k λn o=>Nw (.cells #[.map (some n.block)] 72 (0,0)) o λp q=>App m 1 8 72 [.map none] ⟨some p,1,1⟩ q λr s=>bU (some f) λt=>dS (t.add 1) (.slice r.a r.len r.cap) s λu=>Ar .i64 (j*2) λv=>i v u) (c (some f) 0 k))) λw=>If (a<1) (w true b) (w (decide (a>1024)) b)
theorem QM.o {a b c}(d:QM.v a b c):QM.c a b c:=Wa Tryz.func197 (x:=QM.h) (R0 d)
def X6.h:Hn:=.q .o1 (.q (.q .o5 (.q .o2 .aJ)) (.q (.q .o2 (.k (.loop [(8,.I)] (.q (.q .o5 (.c .l .l)) (.q (.k (.q .o3 .aK)) .o3))))) (.q .o4 .aM)))
def X6.v (a:R2)(b c:Int)(d:Hp)(e:aN):Prop:=YQ.c a b c d λf g=>If (f != 0) (e f g) (X9 [bN] (λh=>h b g) λi (j:Int) k=>bL (b+c) λl=>If (j<l) (Yc.c a j k λm n=>If m (e 9 n) (bL (j+1) λo=>i o n)) (XQ.c a b c k λp=>e 0 p))
theorem X6.o {a b c d e}(f:X6.v a b c d e):X6.c a b c d e:=Wa Tryz.func221 (x:=X6.h) (R0 f)
def YQ.h:Hn:=.q .o1 (.q (.k (.q .o4 (.c .aM (.q (.cR (.seq [.op,.op,.op,.cX false 2 [.op,.op],.op,.cX false 6 (RI.ops 6),.op,.cX false 8 (RI.ops 8),.op])) .aK)))) .aM)
def YQ.v (a:R2)(b c:Int)(d:Hp)(e:aN):Prop:=X5.c a d λf g=>If (!f) (e 5 g) (bV (λh i=>bV (λj k=>bV (λl m=>If l (e 1 m) (e 0 m)) λn=>If j (n true k) (bD a 0 k λp=>bL (p-b) λq=>n (decide (c>q)) k)) λr=>If h (r true i) (bD a 0 i λt=>r (decide (b>t)) i)) λu=>If (b<0) (u true g) (u (decide (c<1)) g))
theorem YQ.o {a b c d e}(f:YQ.v a b c d e):YQ.c a b c d e:=Wa Tryz.func236 (x:=YQ.h) (R0 f)
def Yc.h:Hn:=.q .o1 (.q (.q (.cR (.seq [.op,.op,.op,.op,.cX false 2 [.op,.op],.op,.cX false 6 (RI.ops 6)])) .aK) (.q .gT .aL))
def Yc.v (a:R2)(b:Int)(c:Hp)(d:aO):Prop:=X5.c a c λe f=>bV (λg h=>bV (λi j=>If i (d false j) (Xp.c a b j λk l m n=>d m n)) λo=>If g (o true h) (bD a 0 h λq=>o (decide (b≥q)) h)) λr=>If (!e) (r true f) (r (decide (b<0)) f)
theorem Yc.o {a b c d}(e:Yc.v a b c d):Yc.c a b c d:=Wa Tryz.func237 (x:=Yc.h) (R0 e)
def Zh.h:Hn:=.q .o2 (.k (.loop [(6,.I)] (.q (.q .o5 (.c .l .l)) (.k (.q .gT (.q .o9 (.q .o5 (.q .o6 (.q (.q .o4 (.q .o3 (.c .o6 .l))) .o2)))))))))
def Zh.v (a:R2)(b c:Int)(d:Hp)(e:aP):Prop:=X9 [bN] (λf=>f b d) λg (h:Int) i=>bL (b+c) λj=>If (h<j) (Xp.c a h i λk l m n=>bE a 1 n λp=>Ix p.a p.len k 1 λq=>ld q n λr=>lC .i64 .b r l n λs=>Nn k<|bL ((1:Int)*2^(min k.toNat IntKind.i64.bits)) λt=>bL (l+t) λu=>bL (h-l) λv=>XQ.c a l v s λw=>bL (b+c) λx=>If (u>x) (bL (u-x) λy=>XQ.c a x y w λz=>g u z) (g u w)) (e i)
theorem Zh.o {a b c d e}(f:Zh.v a b c d e):Zh.c a b c d e:=Wa Tryz.func238 (x:=Zh.h) (R0 f)
def Xz.h:Hn:=.q .o2 (.q (.k (.q .o4 (.c .aL (.q (.cR (.seq [.op,.op,.op,.cX false 2 [.op,.op],.op,.cX false 2 [.op,.op],.op,.cX false 2 [.op,.op],.op,.cX false 5 (RI.ops 5),.op])) .aJ)))) (.q (.q .o6 (.k (.loop [(42,.I)] (.q .o1 (.q (.c .l .l) (.q (.k (.q .o5 (.q (.cR (.seq [.op,.op,.op,.op,.op,.op,.op,.cX true 3 (RI.ops 3)])) (.c (.q .o5 (.q .o4 (.q .o3 .l))) .l)))) .o2)))))) .aL))
def Xz.v (a:R2)(b c:Int)(d:Hp)(e:Int->Int->Hp->Prop):Prop:=X5.c a d λf g=>If (!f) (e 0 5 g) (bV (λh i=>bV (λj k=>bV (λl m=>bV (λn o=>If n (e 0 1 o) (bE a 1 o λq=>X9 [bN] (λr=>r 0 o) λs (t:Int) u=>If (t<((q.len:Nat):Int)) (Ix q.a q.len t 1 λv=>ld v u λw=>Nn t<|bL ((1:Int)*2^(min t.toNat IntKind.i64.bits)) λx=>bV (λy z=>If y (Z9.c w z λaa ab=>Vb.c aa ab λac ad=>XL.c ac ad λae af=>Zh.c a ae b af λag=>e ae 0 ag) (bL (t+1) λah=>s ah z)) λai=>If (x≥(if c>b then c else b)) (qJ .i64 .b w u λaj=>ai (decide (aj>0)) u) (ai false u)) (e 0 6 u))) λak=>If l (ak true m) (bL (c-1) λal=>ak ((bits .and .i64 c al) != 0) m)) λam=>If j (am true k) (am (decide (c>1024)) k)) λan=>If h (an true i) (an (decide (c<1)) i)) λao=>If (b<1) (ao true g) (ao (decide (b>1024)) g))
theorem Xz.o {a b c d e}(f:Xz.v a b c d e):Xz.c a b c d e:=Wa Tryz.func253 (x:=Xz.h) (R0 f)
def XQ.h:Hn:=.k (.loop [(1,.I),(2,.I)] (.q (.q .o2 (.c .l .l)) (.k (.q .o1 (.q (.k (.loop [(6,.I)] (.q (.q (.cR (.seq [.op,.op,.op,.op,.op,.op,.op,.op,.op,.op,.cX true 5 (RI.ops 5)])) (.c .l .l)) (.k .o3)))) (.q .o4 (.oq 10)))))))
def XQ.v (a:R2)(b c:Int)(d:Hp)(e:aP):Prop:=X9 [bN,bN] (λf=>f b c d) λg (h:Int) (i:Int) j=>If (i>0) (X9 [bN] (λk=>k 0 j) λl (m:Int) n=>bL (m+1) λo=>Nn o <| bL (m+1) λp=>Nn p<|bL ((h.fdiv (2^(min o.toNat IntKind.i64.bits)))*2^(min p.toNat IntKind.i64.bits)) λq=>bV (λr s=>If r (bL (m+1) λt=>l t s) (Y5.c a m h s λu=>Nn m<|bL ((1:Int)*2^(min m.toNat IntKind.i64.bits)) λv=>bL (h+v) λw=>Nn m<|bL ((1:Int)*2^(min m.toNat IntKind.i64.bits)) λx=>bL (i-x) λy=>g w y u)) λz=>If (q==h) (bL (m+1) λaa=>Nn aa<|bL ((1:Int)*2^(min aa.toNat IntKind.i64.bits)) λab=>z (decide (ab<=i)) n) (z false n)) (e j)
theorem XQ.o {a b c d e}(f:XQ.v a b c d e):XQ.c a b c d e:=Wa Tryz.func267 (x:=XQ.h) (R0 f)
def Xp.h:Hn:=.q .o3 (.q (.q .o6 (.k (.loop [(15,.I)] (.q .o1 (.q (.c .l .l) (.q (.k (.q .o5 (.q .o6 (.q .o3 (.c (.q .o5 .l) .l))))) .o2)))))) (.q .o3 .l))
def Xp.v (a:R2)(b:Int)(c:Hp)(d:Int->Int->Bool->Hp->Prop):Prop:=bE a 1 c λf=>X9 [bN] (λg=>g 0 c) λh (i:Int) j=>If (i<((f.len:Nat):Int)) (Ix f.a f.len i 1 λk=>ld k j λl=>Nn i <| Nn i<|bL ((b.fdiv (2^(min i.toNat IntKind.i64.bits)))*2^(min i.toNat IntKind.i64.bits)) λm=>Lk .i64 .b l m j λn=>If (n.getD false) (d i m true j) (bL (i+1) λo=>h o j)) (d 0 0 false j)
theorem Xp.o {a b c d}(e:Xp.v a b c d):Xp.c a b c d:=Wa Tryz.func275 (x:=Xp.h) (R0 e)
def Y5.h:Hn:=.q (.k (.loop [(1,.I),(2,.I)] (.q (.q (.cR (.quiet [.op,.op,.op,.op,.op,.op,.op,.op,.op,.cX true 12 (RI.ops 12)])) (.c .l .l)) (.k (.q (.cR (.tail 11 (RI.ops 11) [.op])) (.q .o8 .o3)))))) .o9
def Y5.v (a:R2)(b c:Int)(d:Hp)(e:aP):Prop:=X9 [bN,bN] (λf=>f b c d) λg (h:Int) (i:Int) j=>bL (h+1) λk=>bE a 1 j λm=>bV (λn o=>If n (bE a 1 o λq=>Ix q.a q.len h 1 λr=>ld r o λs=>Nn h<|bL ((1:Int)*2^(min h.toNat IntKind.i64.bits)) λt=>lC .i64 .b s (bits .xor .i64 i t) o λu=>bL (h+1) λv=>Nn v <| bL (h+1) λw=>Nn w<|bL ((i.fdiv (2^(min v.toNat IntKind.i64.bits)))*2^(min w.toNat IntKind.i64.bits)) λx=>bL (h+1) λy=>g y x u) (bE a 1 o λaa=>Ix aa.a aa.len h 1 λab=>ld ab o λac=>kf .i64 .b ac i true o λad=>e ad)) λae=>If (k<((m.len:Nat):Int)) (bE a 1 j λag=>Ix ag.a ag.len h 1 λah=>ld ah j λai=>Nn h<|bL ((1:Int)*2^(min h.toNat IntKind.i64.bits)) λaj=>Lk .i64 .b ai (bits .xor .i64 i aj) j λak=>ae (ak.getD false) j) (ae false j)
theorem Y5.o {a b c d e}(f:Y5.v a b c d e):Y5.c a b c d e:=Wa Tryz.func293 (x:=Y5.h) (R0 f)
end Go.Proofs
namespace Go.Vc
open Go
variable {ro:Option Nat}{m0:Nat}
def Fw (ro:Option Nat):Fence:={Fence.wide with round:=ro}
theorem Fb {P:Program}{f:Nat}{args:Array Value}{w:World}{R:Ending->World->Prop}(h:Calls P f args w R):CallsIn (Fw ro) m0 P f args w R:=by
 cases ro with
 | none=>exact callsIn_wide.2 h
 | some l=>exact CallsIn.inRound l (callsIn_wide.2 h)
theorem LG {P:Program}{ρ:Operand->Value}{o:Oper}{w:World}{K:Value->Hp->Prop}(h:QK P (execOp ρ o) w K):∀c,o.op≠.defer c:=by
 intro c hc;have key:∀(s:Sem Deferred) r,((do pure (Next.defer (←s)):Sem Next).run P w=.ok r w->∃d,r=.defer d)/\(∀w',(do pure (Next.defer (←s)):Sem Next).run P w=.ok r w'->∃d,r=.defer d):=by
  intro s r;have:∀w',(do pure (Next.defer (←s)):Sem Next).run P w=.ok r w'->∃d,r=.defer d:=by
   intro w' hr;rw[Sem.run_bind]at hr;cases hs:s.run P w with
   | ok d w2=>
    rw[hs]at hr;simp at hr;exact⟨d,hr.1.symm⟩
   | halt x w2=>
    rw[hs]at hr;simp at hr
  exact⟨this w,this⟩
 have a:execOp ρ o=(do pure (Next.defer (←resolve ρ c o.type)):Sem Next):=by unfold execOp;rw[hc]
 rw[a]at h;rcases h with⟨v,w',hr,_⟩|⟨w',hr,_⟩|⟨f,args,rs,R,hr,_⟩
 ·obtain⟨d,hd⟩:=(key _ _).2 w' hr;cases hd
 ·obtain⟨d,hd⟩:=(key _ _).2 w' hr;cases hd
 ·obtain⟨d,hd⟩:=(key _ _).2 w hr;cases hd
theorem QK.uponIn {P:Program}{o:Oper}{a:Act}{w:World}{K:Value->Hp->Prop}{next:Act->World->Prop}{Q:Exit->Act->World->Prop}
 (h:QK P (execOp a.eval o) w K) (hn:∀v w',W7 w w'->K v w'.heap->next (a.put o.dst v) w'):o.wpIn (Fw ro) m0 P a w next Q:=by
 refine⟨λ_ _=>trivial,?_⟩;rw[Oper.semAt_eq _ _ _ (LG h)];rcases h with⟨v,w',hr,b,hK⟩|⟨w',hr,b,hK⟩|⟨f,args,rs,R,hr,hc,hK⟩
 ·rw[hr];exact hn _ _ b hK
 ·rw[hr];exact hn _ _ b hK
 ·rw[hr];refine⟨λh=>by simp[Fw,Fence.wide]at h,Fb ((hc w rfl).mono λe w' ⟨b,vs,d,g⟩=>?_)⟩;subst d;exact hn _ _ b (hK _ _ g)
theorem FF {P:Program}{N:Nat}{ops:Array Oper}{Q:Exit->Act->World->Prop}{tail:List Oper}{w:World}:∀{os:List Oper} {ρ:Env} {a:Act},VZ N ops os ρ=true->Fits N ρ a →
 (∀a',Fits N (ρ.dU (os.filterMap (·.dst))) a'->wpListIn (Fw ro) m0 P ops Q tail a' w)->wpListIn (Fw ro) m0 P ops Q (os++tail) a w
 | [],ρ,a,_,hf,h=>h a (hf.weaken (GD _ _))
 | o::os,ρ,a,hs,hf,h=>by
  simp only[VZ,zF]at hs;obtain⟨h1,h2,h3⟩:=hs;have m:=KD hf h1;simp only[lf,wpListIn,m];refine⟨λ_ _=>trivial,?_⟩;refine FF h3 (hf.put h2 _) λa' g=>h a' (g.weaken λi v b=>?_);simp only[Env.dU]at b ⊢;cases hc:(List.filterMap (·.dst) (o::os)).contains i
  ·rw[hc]at b;simp only[cond_false]at b;have j:(List.filterMap (·.dst) os).contains i=false:=by
    cases hd:o.dst<;>simp_all
   have e:∀d,o.dst=some d->i≠d:=by
    intro d hd;simp_all
   rw[j];simp only[cond_false];cases hd:o.dst with
   | none=>exact b
   | some d=>
    have:=e d hd;simp only[Env.il,Env.put];have:Nat.beq i d=false:=by
     cases hb:Nat.beq i d
     ·rfl
     ·exact absurd (zy hb) this
    rw[this];exact b
  ·rw[hc]at b;cases b
theorem KA {P:Program}{N:Nat}{ops:Array Oper}{Q:Exit->Act->World->Prop}:∀(n:Nat) {hs:List RI} {os:List Oper} {tail:List Oper} {ρ:Env} {a:Act} {w:World} {K:Env->Hp->Prop},
 eB P N ops n hs os ρ w.heap K->Fits N ρ a->(∀ρ' a' w',Fits N ρ' a'->W7 w w'->VA os ρ ρ'->K ρ' w'.heap->wpListIn (Fw ro) m0 P ops Q tail a' w')->wpListIn (Fw ro) m0 P ops Q (os++tail) a w
 | 0,_,_,_,_,_,_,_,h,_,_=>(by simp only[eB]at h)
 | n+1,[],[],tail,ρ,a,w,K,h,hf,hK=>by
  simp only[eB]at h;exact hK ρ a w hf (.refl _) (λ_ _ _ h=>h) h
 | n+1,[],o::os,tail,ρ,a,w,K,h,hf,hK=>(by simp only[eB]at h)
 | n+1,.op::hs,[],tail,ρ,a,w,K,h,hf,hK=>(by simp only[eB]at h)
 | n+1,.op::hs,o::os,tail,ρ,a,w,K,h,hf,hK=>by
  simp only[eB]at h;rw[Wu]at h;obtain⟨hc,h⟩:=h;simp only[zF]at hc;have H:=Zf hf hc.1;simp only[lf,wpListIn,H,zR];refine QK.uponIn (Us hf.ev o h) λv w' E u=>?_;exact KA n u (hf.put hc.2 v) λρ' a' A g j C p=>hK ρ' a' A g (E.trans j) C.cons p
 | n+1,.it ki c::hs,[],tail,ρ,a,w,K,h,hf,hK=>(by simp only[eB]at h)
 | n+1,.it ki c::hs,o::os,tail,ρ,a,w,K,h,hf,hK=>by
  simp only[eB]at h;rw[Wu]at h;obtain⟨hc,h⟩:=h;simp only[zF]at hc;have H:=Zf hf hc.1;simp only[lf,wpListIn,H,zR];refine QK.uponIn (Ex hf.ev o h) λv w' E u=>?_;exact KA n u (hf.put hc.2 v) λρ' a' A g j C p=>hK ρ' a' A g (E.trans j) C.cons p
 | n+1,.cX and m inner::hs,os,tail,ρ,a,w,K,h,hf,hK=>by
  simp only[eB]at h;split at h
  case h_2=>exact h.elim
  rename_i pk rest hdrop;split at h
  case h_2=>exact h.elim
  rename_i c x y d hop hd;split at h
  case h_2=>exact h.elim
  rename_i b hb;rw[Wu]at h;obtain⟨hc,J,hJ,h⟩:=h;simp only[zF]at hc;obtain⟨R,V,aa,X,D⟩:=hc;have ad:qb N pk.dst=true:=by rw[hd];exact R
  have ab:os++tail=os.take m++(pk::rest++tail):=by
   rw[←hdrop,←ka,nG]
  rw[ab];have s:∀(r b':Bool) (z:Operand) a' w',b=b'->(bif b' then x else y)=z->Fits N (ρ.dU ((os.take m).filterMap (·.dst))) a'->W7 w w'->J r w'.heap->Region.wanted pk (yielded ops a'.tmps)=true →
   a'.eval (.tmp c)=.bool b'->a'.eval z=.bool r->wpListIn (Fw ro) m0 P ops Q (pk::rest++tail) a' w':=by
   intro r b' z a' w' e ez g E L H F hez;simp only[lf,wpListIn,H,zR];refine QK.uponIn (K:=λv Y=>v=.bool r/\Y=w'.heap) (GM hop F (by rw[ez];exact hez) ⟨rfl,rfl⟩) λv A j u=>?_;obtain⟨rfl,hh⟩:=u;have W:=g.put (d:=some d) R (.bool r);rw[hd];have G:=hJ _ _ L;rw[←hh]at G;exact KA n G W λρ' Z w3 M U C p=>hK ρ' Z w3 M ((E.trans j).trans U) (VA.cX hd hdrop C) p
  have run:∀(b':Bool) (z:Operand),b=b'->(bif b' then x else y)=z →
   eB P N ops n inner (os.take m) (ρ.put c (.bool b')) w.heap (λρ' Y=>fO (H7 ops pk ρ'&&rf ρ' c b') (Ue ρ' z λr=>J r Y))->wpListIn (Fw ro) m0 P ops Q (os.take m++(pk::rest++tail)) a w:=by
   intro b' z e ez hseg;refine KA n hseg (hf.lit hb e) λρ' a' w' g E C u=>?_;rw[Wu]at u;simp only[zF]at u;obtain⟨⟨hg,ac⟩,u⟩:=u;obtain⟨r,hr,L⟩:=Kg u;exact s r b' z a' w' e ez (g.uL hb e C) E L (Zf g hg) (g.ev _ _ (Uj ac)) (g.ev _ _ hr)
  have B:∀(b':Bool),b=b'->b' = !and->J (!and) w.heap->wpListIn (Fw ro) m0 P ops Q (os.take m++(pk::rest++tail)) a w:=by
   intro b' e eb L;subst eb;refine FF D (hf.lit hb e) λa' g=>?_;have S:Fits N (ρ.dU ((os.take m).filterMap (·.dst))) a':=g.uL (ρ':=(ρ.put c (.bool (!and))).dU ((os.take m).filterMap (·.dst))) hb e (λi hi v hv=>by simp only[Env.dU,hi];exact hv);have F:=g.ev (.tmp c) _ (Uj X);refine s (!and) (!and) (bif (!and)then x else y) a' w e rfl S (.refl _) L (Zf S aa) F ?_;refine AQ ?_ _ (λv=>rfl);cases and<;>exact V
  cases and
  ·simp only[cond_false]at h;cases b
   ·exact run false y rfl rfl (h.f rfl)
   ·exact B true rfl rfl (h.t rfl)
  ·simp only[cond_true]at h;cases b
   ·exact B false rfl rfl (h.f rfl)
   ·exact run true x rfl rfl (h.t rfl)
end Go.Vc
namespace Go.Vc
open Go
variable {ro:Option Nat}{m0:Nat}{P:Program}
def Act.wd (a:Act)(ds:List Deferred):Act:={a with defers:=ds}
theorem tz (a:Act)(ds:List Deferred)(d:Option Nat)(v:Value):(Act.wd a ds).put d v=Act.wd (a.put d v) ds:=by cases d<;>rfl
theorem Aq (a:Act)(d e:List Deferred):Act.wd (Act.wd a d) e=Act.wd a e:=rfl
theorem VO {a:Act}{ds:List Deferred}(h:a.defers=ds):Act.wd a ds=a:=by subst h;rfl
def jC (P:Program)(o:Oper):Bool:=match o.op with
 | .call c=>match c.callee with
  | .value (.func f)=>VJ P f
  | _=>false
 | .move _ | .assign _ | .alloc _ | .box _ _ | .build _ _ | .buildSlice _ _ _ | .load _ _ | .store _ _ _ | .binOp _ _ _ _ _ | .unOp _ _ _ | .fieldAddr _ _ _ | .indexAddr _ _ _ | .lookup _ _ _ _ | .mapUpdate _ _ _ _ | .extract _ _ | .nilCheck _ | .pick _ _ _=>true
 | _=>false
theorem LW {s:Sem Value}{w w':World}{r:Next}(h:(do pure (Next.value (←s)):Sem Next).run P w=.ok r w'):∃v,r=.value v:=by
 rw[Sem.run_bind]at h;cases hs:s.run P w with
 | ok d w2=>rw[hs]at h;simp at h;exact⟨d,h.1.symm⟩
 | halt x w2=>rw[hs]at h;simp at h
theorem MV {s:Sem Unit}{w w':World}{r:Next}(h:(do s;pure Next.skip:Sem Next).run P w=.ok r w'):r=.skip:=by
 rw[Sem.run_bind]at h;cases hs:s.run P w with
 | ok d w2=>rw[hs]at h;simp at h;exact h.1.symm
 | halt x w2=>rw[hs]at h;simp at h
def OI (r:Next):Prop:=(∃v,r=.value v)\/r=.skip\/∃f args,r=.enter f args
theorem BK {α:Type}{s:Sem α}{f:α->Sem Next}{w w':World}{r:Next}(h:(s >>= f).run P w=.ok r w'):∃x w2,(f x).run P w2=.ok r w':=by
 rw[Sem.run_bind]at h;cases hs:s.run P w with
 | ok d w2=>rw[hs]at h;exact⟨d,w2,h⟩
 | halt x w2=>rw[hs]at h;simp at h
theorem GC {x r:Next}{w w':World}(h:(pure x:Sem Next).run P w=.ok r w'):r=x:=by rw[Sem.run_pure]at h;cases h;rfl
theorem yw {r:Next}{w w':World}(h:(runtimePanic .nilDeref:Sem Next).run P w=.ok r w'):False:=by simp[runtimePanic,goPanic,Sem.run,go_sem]at h
theorem M6 {a:Act}{o:Oper}{w w':World}{r:Next}(hk:jC P o=true)(h:(execOp a.eval o).run P w=.ok r w'):OI r:=by
 unfold jC at hk;unfold execOp at h;cases ho:o.op<;>rw[ho]at hk h<;>simp only at hk h<;>first
  | exact .inl (LW h)
  | exact .inr (.inl (MV h))
  | cases hk
  | skip
 case move x=>rw[Sem.run_pure]at h;cases h;exact .inl ⟨_,rfl⟩
 case assign x=>rw[Sem.run_pure]at h;cases h;exact .inl ⟨_,rfl⟩
 case pick c x y=>
  rw[Sem.run_bind]at h;cases hs:(asBool (a.eval c)).run P w with
  | ok d e=>rw[hs]at h;simp at h;exact .inl ⟨_,h.1.symm⟩
  | halt x e=>rw[hs]at h;simp at h
 case call c=>
  obtain⟨callee,args,b⟩:=c;simp only at hk h;split at hk
  ·rename_i f;have i:=Vd hk (args.map a.eval) w;have g:(do let d ←resolve a.eval {callee:=.value (.func f),args:=args,argTypes:=b} o.type;invoke d.target d.args:Sem Next).run P w=(callFunc f (args.map a.eval)).run P w:=by
    simp[resolve,Act.eval,Deferred.ofValue,invoke]
   rw[g,i]at h;cases h;exact .inr (.inr ⟨_,_,rfl⟩)
  ·cases hk
 case nilCheck x=>
  split at h
  ·exact(yw h).elim
  ·exact(yw h).elim
  ·exact(yw h).elim
  ·split at h
   ·exact(yw h).elim
   ·obtain⟨y,e,h⟩:=BK h;obtain⟨z,j,h⟩:=BK h;split at h
    ·obtain⟨y,m,h⟩:=BK h;exact .inl ⟨_,GC h⟩
    ·exact .inl ⟨_,GC h⟩
   ·exact .inl ⟨_,GC h⟩
  ·exact .inl ⟨_,GC h⟩
theorem CQ {o:Oper}{a:Act}{w:World}{ds:List Deferred}{next next':Act->World->Prop}{Q Q':Exit->Act->World->Prop}(hk:jC P o=true)(h:o.wp P (Act.wd a []) w next Q')
 (hn:∀a' w',next a' w'->a'.defers=[]->next' (Act.wd a' ds) w') (hp:∀c a w,¬Q' (.panic c) a w) (ho:∀a w,¬Q' .outgrown a w):o.wpIn (Fw ro) m0 P (Act.wd a ds) w next' Q:=by
 have i:∀c,o.op≠.defer c:=λc j=>by unfold jC at hk;rw[j]at hk;cases hk
 refine⟨λ_ _=>trivial,?_⟩;rw[Oper.semAt_eq _ _ _ i];unfold Oper.wp at h;have m:(execOp (Act.wd a []).eval o)=execOp (Act.wd a ds).eval o:=rfl;rw[m]at h;have hd:∀v,((Act.wd a []).put o.dst v).defers=[]:=λv=>by rw[tz];rfl
 have d:∀v,Act.wd ((Act.wd a []).put o.dst v) ds=(Act.wd a ds).put o.dst v:=λv=>by rw[tz,tz,Aq]
 cases hr:(execOp (Act.wd a ds).eval o).run P w with
 | ok r w'=>
  rw[hr]at h;rcases M6 hk hr with⟨v,rfl⟩|rfl|⟨f,args,rfl⟩
  ·rw[Oper.uponIn_value,←d];exact hn _ _ h (hd v)
  ·rw[Oper.uponIn_skip,←d];exact hn _ _ h (hd _)
  ·refine⟨λh=>by simp[Fw,Fence.wide]at h,Fb (Calls.mono h λe g b=>?_)⟩;cases e with
   | returned v=>
    show next' ((Act.wd a ds).put o.dst v) g;rw[←d];exact hn _ _ b (hd v)
   | panicked chain=>exact(hp _ _ _ b).elim
   | outgrown=>obtain⟨p,w0,b⟩:=b;exact(ho _ _ b).elim
 | halt x w'=>
  rw[hr]at h;cases x<;>first
   | exact(hp _ _ _ h).elim
   | exact h.elim
theorem Jj {ops:Array Oper}{i:Nat}{a:Act}{w:World}{ds:List Deferred}{next next':Act->World->Prop}{Q Q':Exit->Act->World->Prop}(hk:∀o∈ops,jC P o=true)(h:wpOp P ops Q' i next (Act.wd a []) w)
 (hn:∀a' w',next (Act.wd a' []) w'->next' (Act.wd a' ds) w') (hp:∀c a w,¬Q' (.panic c) a w) (ho:∀a w,¬Q' .outgrown a w):wpOpIn (Fw ro) m0 P ops Q i next' (Act.wd a ds) w:=by
 unfold wpOp at h;unfold wpOpIn;cases hi:ops[i]? with
 | none=>rw[hi]at h;exact hn _ _ h
 | some o=>
  rw[hi]at h;simp only at h ⊢;have b:yielded ops (Act.wd a []).tmps=yielded ops (Act.wd a ds).tmps:=rfl;rw[b]at h;split
  ·rename_i hw;rw[zC hw]at h;rcases h with h|⟨_,a0,w0,hq⟩
   ·exact CQ (hk o (xI hi)) h (λa' w' d hd=>hn a' w' (by rw[VO hd];exact d)) hp ho
   ·exact(ho _ _ hq).elim
  ·rename_i hw;rw[zB hw,tz]at h;refine⟨λ_ _=>trivial,?_⟩;rw[tz];exact hn _ _ h
theorem Br {ops:Array Oper}{ds:List Deferred}{Q Q':Exit->Act->World->Prop}(hk:∀o∈ops,jC P o=true)(hp:∀c a w,¬Q' (.panic c) a w)(ho:∀a w,¬Q' .outgrown a w)(hN:∀a w,Q' .normal (Act.wd a []) w->Q .normal (Act.wd a ds) w) :
 ∀(m:Nat) (listed:Array Bool) (a:Act) (w:World),wpAny P .any ops Q' m listed (Act.wd a []) w->wpAnyIn (Fw ro) m0 P .any ops Q m listed (Act.wd a ds) w
 | 0,listed,a,w,h=>⟨h.1,hN _ _ h.2⟩
 | m+1,listed,a,w,h=>⟨λe=>hN _ _ (h.1 e),λi hi=>Jj hk (h.2 i hi) (λa' w' h'=>Br hk hp ho hN m _ a' w' h') hp ho⟩
theorem Bj {ops:Array Oper}{ds:List Deferred}{Q Q':Exit->Act->World->Prop}(hp:∀c a w,¬Q' (.panic c) a w)(ho:∀a w,¬Q' .outgrown a w)(hN:∀a w,Q' .normal (Act.wd a []) w->Q .normal (Act.wd a ds) w) :
 ∀(l:List Oper) (a:Act) (w:World),(∀o∈l,jC P o=true)->wpList P ops Q' l (Act.wd a []) w->wpListIn (Fw ro) m0 P ops Q l (Act.wd a ds) w
 | [],a,w,_,h=>hN _ _ h
 | o::l,a,w,hk,h=>by
  have hl:=λi b=>hk i (nB _ b);unfold wpList at h;unfold wpListIn;have e:yielded ops (Act.wd a []).tmps=yielded ops (Act.wd a ds).tmps:=rfl;rw[e]at h;split
  ·rename_i hw;rw[zC hw]at h;rcases h with h|⟨_,a0,w0,hq⟩
   ·exact CQ (hk o pw) h (λd g j hd=>Bj hp ho hN l d g hl (by rw[VO hd];exact j)) hp ho
   ·exact(ho _ _ hq).elim
  ·rename_i hw;rw[zB hw,tz]at h;refine⟨λ_ _=>trivial,?_⟩;rw[tz];exact Bj hp ho hN l _ w hl h
structure lz (ds:List Deferred) (N:Nat) (ρ:Env) (a:Act):Prop where
 f:Fits N ρ (Act.wd a [])
 d:a.defers=ds
theorem lz.ev {ds:List Deferred}{N:Nat}{ρ:Env}{a:Act}(h:lz ds N ρ a):∀x v,ev ρ x=some v->a.eval x=v:=λx v b=>h.f.ev x v b
def BL (Q:Act->World->Prop):Exit->Act->World->Prop
 | .normal,a,w=>Q a w
 | _,_,_=>False
def oD (P:Program)(dz:Bool)(ops:Array Oper)(draw:Bool):RH->Bool
 | .seq _=>!draw&&(dz||ops.all (jC P))
 | .held _ _ _=>draw&&ops.all (jC P)
 | .gL _ _ _ _=>draw&&ops.all (jC P)
 | _=>false
theorem yU {ops:Array Oper}(h:ops.all (jC P)=true):∀o∈ops,jC P o=true:=λo a=>by rw[Array.all_eq_true']at h;exact h o a
theorem E4 {N id:Nat}{ops:Array Oper}{sm:Bool}{C:List Nat}{sh:SH}{K:Env->Hp->Prop}{ρ:Env}{a:Act}{w:World}{Q:Act->World->Prop}
 (hsel:Region.noSelect ops=true) (h:yi P N sm C sh ops ρ w.heap K)
 (hf:Fits N ρ a) (hK:∀ρ' a' w',Fits N ρ' a'->W7 w w'->VA ops.toList ρ ρ'->K ρ' w'.heap->Q a' w'):wpAny P .any ops (BL Q) ops.size (Array.replicate ops.size false) a {w with drawn:=w.drawn+1}:=by
 have hd:W7 w {w with drawn:=w.drawn+1}:=⟨rfl,rfl,rfl,zD _⟩;have e:BL Q=λe a w=>match e with | .normal=>Q a w|_=>False:=by funext e a w;cases e<;>rfl
 rw[e];cases sm
 ·exact VD _ _ _ _ (ZS (S:=λ_=>True) (w:={w with drawn:=w.drawn+1}) (Qn:=Q) hsel (λ_ _=>trivial) 400 ops.size h hf (ig.start ops) (.inl trivial) λρ' a' w' b d i g=>hK ρ' a' w' b (hd.trans d) i g)
 ·obtain⟨S,j,h⟩:=h;exact VD _ _ _ _ (ZS (S:=S) (w:={w with drawn:=w.drawn+1}) (Qn:=Q) hsel (λe=>by cases e) 400 ops.size h hf (ig.start ops) (.inl j) λρ' a' w' b d i g=>hK ρ' a' w' b (hd.trans d) i g)
theorem Pq {N id:Nat}{r:RH}{ops:Array Oper}{draw:Bool}{ρ:Env}{a:Act}{w:World}{K:Env->Hp->Prop}{Q:Exit->Act->World->Prop}{ds:List Deferred}
 (h:l8 P N r ops draw ρ w.heap K) (ho:oD P ds.isEmpty ops draw r=true) (hf:lz ds N ρ a) (hK:∀ρ' a' w',lz ds N ρ' a'->W7 w w'->K ρ' w'.heap->Q .normal a' w'):(Code.region id ops draw).wpIn (Fw ro) m0 P Q a w:=by
 have C:Act.wd (Act.wd a []) ds=a:=by rw[Aq];exact VO hf.d
 have i:∀ρ' a' w',Fits N ρ' a'->W7 w w'->K ρ' w'.heap->Q .normal (Act.wd a' ds) w':=λρ' a' w' b g e=>hK ρ' _ w' ⟨by rw[Aq,VO b.defers];exact b,rfl⟩ g e;unfold l8 at h;split at h
 ·rename_i A;simp only[oD,wB,qG,nm]at ho;refine wpIn_region_list ?_;rcases ho with ho|ho
  ·have z:ds=[]:=by cases ds<;>simp at ho;rfl
   subst z;have s:Act.wd a []=a:=C;rw[←s];have:=KA (ro:=ro) (m0:=m0) (Q:=Q) (tail:=[]) 400 h hf.f λρ' a' w' b g p e=>by
    have:=i ρ' a' w' b g e;rw[VO b.defers]at this;exact this
   simpa using this
  ·have:=Kj (Q:=BL λa' w'=>Q .normal (Act.wd a' ds) w') (tail:=[]) 400 h hf.f λρ' a' w' b g p e=>i ρ' a' w' b g e;have j:=Bj (ro:=ro) (m0:=m0) (ds:=ds) (Q:=Q) (ops:=ops) (λ_ _ _ h=>h) (λ_ _ h=>h) (λa w h=>h) ops.toList a w (λo x=>yU ho o (by simpa using x)) (by simpa using this);rw[VO hf.d]at j;exact j
 ·cases ho
 ·cases ho
 ·rename_i sm sh;rw[Wu]at h;simp only[zF]at h;simp only[oD,qG]at ho;refine wpIn_region_any h.1.1 ?_;have y:=E4 (id:=id) (Q:=λa' w'=>Q .normal (Act.wd a' ds) w') h.1.2 h.2 hf.f λρ' a' w' b g p e=>i ρ' a' w' b g e;have j:=Br (ro:=ro) (m0:=m0) (ds:=ds) (Q:=Q) (yU ho) (λ_ _ _ h=>h) (λ_ _ h=>h) (λa w h=>h) _ _ _ _ y;rw[VO hf.d]at j;exact j
 ·rename_i sm js sh;rw[Wu]at h;simp only[zF]at h;simp only[oD,qG]at ho;obtain⟨⟨D,m,F⟩,J,E,h⟩:=h;refine wpIn_region_any D ?_;have y:=E4 (id:=id) (Q:=λa' w'=>Q .normal (Act.wd a' ds) w') m h hf.f λρ' a' w' b g p e=>by
   obtain⟨vs,B,A⟩:=UF e;have u:=VG (A.mono E);exact i _ a' w' (Q1 js (VB b p) b B) g u
  have j:=Br (ro:=ro) (m0:=m0) (ds:=ds) (Q:=Q) (yU ho) (λ_ _ _ h=>h) (λ_ _ h=>h) (λa w h=>h) _ _ _ _ y;rw[VO hf.d]at j;exact j
 ·exact h.elim
def nL (P:Program)(dz:Bool):Code->Hn->Bool
 | .skip,_=>true
 | .ret,_=>true
 | .exit _,_=>true
 | .region _ ops d,.cR r=>oD P dz ops d r
 | .seq a b,.seq x y=>nL P dz a x&&nL P dz b y
 | .cond _ a b,.cond x y=>nL P dz a x&&nL P dz b y
 | .block _ b,.block x=>nL P dz b x
 | _,_=>false
theorem QU {N:Nat}{ds:List Deferred}:∀(c:Code) {x:Hn} {Q:Exit->Env->Hp->Prop} {Q':Exit->Act->World->Prop} {ρ:Env} {a:Act} {w:World},
 iA P N c x Q ρ w.heap->nL P ds.isEmpty c x=true->lz ds N ρ a->(∀e ρ' a' w',lz ds N ρ' a'->W7 w w'->Q e ρ' w'.heap->Q' e a' w')->c.wpIn (Fw ro) m0 P Q' a w
 | .skip,x,Q,Q',ρ,a,w,h,ho,hf,hq=>by
  have h':Q .normal ρ w.heap:=by cases x<;>exact h
  exact wpIn_skip (hq _ ρ a w hf (.refl _) h')
 | .ret,x,Q,Q',ρ,a,w,h,ho,hf,hq=>by
  have h':Q .ret ρ w.heap:=by cases x<;>exact h
  exact wpIn_ret (hq _ ρ a w hf (.refl _) h')
 | .exit id,x,Q,Q',ρ,a,w,h,ho,hf,hq=>by
  have h':Q (.exit id) ρ w.heap:=by cases x<;>exact h
  exact wpIn_exit (hq _ ρ a w hf (.refl _) h')
 | .region id ops d,x,Q,Q',ρ,a,w,h,ho,hf,hq=>by
  cases x<;>simp only[iA]at h
  exact Pq h ho hf λρ' a' w' b j g=>hq _ ρ' a' w' b j g
 | .seq c1 c2,x,Q,Q',ρ,a,w,h,ho,hf,hq=>by
  cases x<;>simp only[iA]at h
  case seq x y=>
   simp only[nL,zF]at ho;refine wpIn_seq (QU c1 h ho.1 hf λe ρ' a' w' b j g=>?_);cases e
   case normal=>exact QU c2 g ho.2 b λe z p s m A r=>hq e z p s m (j.trans A) r
   all_goals exact hq _ ρ' a' w' b j g
  case kg=>cases ho
 | .cond c c1 c2,x,Q,Q',ρ,a,w,h,ho,hf,hq=>by
  cases x<;>simp only[iA]at h
  simp only[nL,zF]at ho;obtain⟨t,B,h⟩:=Kg h;refine wpIn_cond_split (hf.ev _ _ B) (λe=>?_) (λe=>?_)
  ·exact QU c1 (h.t e) ho.1 hf hq
  ·exact QU c2 (h.f e) ho.2 hf hq
 | .block id c1,x,Q,Q',ρ,a,w,h,ho,hf,hq=>by
  cases x<;>simp only[iA]at h
  refine wpIn_block (QU c1 h ho hf λe ρ' a' w' b j g=>?_);cases e
  case exit i=>
   simp only[vq]at g;simp only[Exit.inBlock];split at g
   ·rename_i e;have u:i=id:=zy e;rw[zC u];exact hq _ ρ' a' w' b j g
   ·rename_i e;have u:i≠id:=λh=>by subst h;simp at e
    rw[zB u];exact hq _ ρ' a' w' b j g
  all_goals exact hq _ ρ' a' w' b j g
 | .loop ..,x,Q,Q',ρ,a,w,h,ho,hf,hq=>(by cases x<;>cases ho)
 | .scope ..,x,Q,Q',ρ,a,w,h,ho,hf,hq=>(by cases x<;>cases ho)
 | .label ..,x,Q,Q',ρ,a,w,h,ho,hf,hq=>(by cases x<;>cases ho)
 | .rangeFunc ..,x,Q,Q',ρ,a,w,h,ho,hf,hq=>(by cases x<;>cases ho)
 | .goto ..,x,Q,Q',ρ,a,w,h,ho,hf,hq=>(by cases x<;>cases ho)
 | .refuse ..,x,Q,Q',ρ,a,w,h,ho,hf,hq=>(by cases x<;>cases ho)
def Ha (P:Program)(l:Nat)(args:List Value)(h:Hp)(R:aO):Prop:=
 ∀w:World,w.heap=h->∃fn tmps asg bd,(Instr.yield l args.toArray).run P w=.ok (.round l fn tmps asg bd) w/\RoundIn Fence.wide 0 P l fn tmps asg bd w λe w'=>W7 w w'/\∃b,e=.returned (.bool b)/\R b w'.heap
def yK (P:Program)(o:Oper)(ρ:Env)(h:Hp)(K:Value->Hp->Prop):Prop:=match o.op with
 | .call c=>match c.callee with
  | .value (.tmp t)=>match ρ t,pz ρ c.args.toList with
   | some (.func (.yield l) first cap),some args=>fO (first.isEmpty&&cap.isEmpty) (Ha P l args h λb h'=>K (.bool b) h')
   | _,_=>False
  | _=>qY P o.op o.type ρ h K
 | _=>qY P o.op o.type ρ h K
theorem IN {ρ:Env}{o:Oper}{a:Act}{w:World}{K:Value->Hp->Prop}{next:Act->World->Prop}{Q:Exit->Act->World->Prop}(hf:∀x v,ev ρ x=some v->a.eval x=v)
 (h:yK P o ρ w.heap K) (hn:∀v w',W7 w w'->K v w'.heap->next (a.put o.dst v) w'):o.wpIn (Fw ro) m0 P a w next Q:=by
 have d:qY P o.op o.type ρ w.heap K->o.wpIn (Fw ro) m0 P a w next Q:=λh=>QK.uponIn (Us hf o h) hn
 unfold yK at h;split at h
 ·rename_i c hc;split at h
  ·rename_i t ht;split at h
   ·rename_i l first cap args hρ hargs
    rw[Wu]at h;obtain⟨g,h⟩:=h;simp only[zF,xJ]at g;obtain⟨rfl,rfl⟩:=g;have z:∀c,o.op≠.defer c:=λL A=>by rw[hc]at A;cases A
    refine⟨λ_ _=>trivial,?_⟩;rw[Oper.semAt_eq _ _ _ z];obtain⟨F,i,s,E,C,H⟩:=h w rfl;have e1:=ZH hf hargs;have m:c.args.map a.eval=args.toArray:=by apply Array.ext';simpa using e1
    have e2:a.eval (.tmp t)=.func (.yield l) #[] #[]:=hf (.tmp t) _ hρ;have j:(execOp a.eval o).run P w=.ok (.round l F i s E) w:=by
     obtain⟨dst,op,M,pos,r,y⟩:=o;simp only at hc;subst hc;obtain⟨p,u,J⟩:=c;simp only at ht m;subst ht;simpa[execOp,resolve,m,e2,Deferred.ofValue,invoke]using C
    rw[j];refine⟨λh=>by simp[Fw,Fence.wide]at h,?_⟩;refine RoundIn.mono (R:=λe w'=>W7 w w'/\∃b,e=.returned (.bool b)/\K (.bool b) w'.heap) ⟨trivial,λc D _=>H.2 c D (room_wide _)⟩ ?_;rintro e w' ⟨G,b,rfl,B⟩;exact hn _ _ G B
   ·exact h.elim
  ·exact d h
 ·exact d h
def yx (P:Program)(N:Nat):List Oper->Env->Hp->(Env->Hp->Prop)->Prop
 | [],ρ,h,K=>K ρ h
 | o::os,ρ,h,K=>fO (qb N o.dst&&o.guard.isNone) (yK P o ρ h λv h'=>yx P N os (ρ.il o.dst v) h' K)
theorem GL {N:Nat}{ops:Array Oper}{Q:Exit->Act->World->Prop}:∀{os:List Oper} {ρ:Env} {a:Act} {w:World} {K:Env->Hp->Prop},
 yx P N os ρ w.heap K->Fits N ρ a->(∀ρ' a' w',Fits N ρ' a'->W7 w w'->VA os ρ ρ'->K ρ' w'.heap->Q .normal a' w')->wpListIn (Fw ro) m0 P ops Q os a w
 | [],ρ,a,w,K,h,hf,hK=>hK ρ a w hf (.refl _) (λ_ _ _ h=>h) h
 | o::os,ρ,a,w,K,h,hf,hK=>by
  simp only[yx]at h;rw[Wu]at h;obtain⟨hc,h⟩:=h;simp only[zF,Option.isNone_iff_eq_none]at hc;have j:Region.wanted o (yielded ops a.tmps)=true:=by simp[Region.wanted,hc.2]
  simp only[wpListIn,j,zR];refine IN hf.ev h λv w' i m=>?_;exact GL m (hf.put hc.1 v) λρ' a' g d e p b=>hK ρ' a' g d (i.trans e) p.cons b
def gU (P:Program)(N:Nat):Code->Hn->(Exit->Env->Hp->Prop)->Env->Hp->Prop
 | .skip,_,Q,ρ,h=>Q .normal ρ h
 | .ret,_,Q,ρ,h=>Q .ret ρ h
 | .exit id,_,Q,ρ,h=>Q (.exit id) ρ h
 | .region _ ops d,.cR r,Q,ρ,h=>l8 P N r ops d ρ h λρ' h'=>Q .normal ρ' h'
 | .region _ ops false,.leaf,Q,ρ,h=>yx P N ops.toList ρ h λρ' h'=>Q .normal ρ' h'
 | .seq a b,.seq x y,Q,ρ,h=>gU P N a x (ua (λρ' h'=>gU P N b y Q ρ' h') Q) ρ h
 | .cond c a b,.cond x y,Q,ρ,h=>Ue ρ c λt=>If t (gU P N a x Q ρ h) (gU P N b y Q ρ h)
 | .block id b,.block x,Q,ρ,h=>gU P N b x (vq id Q) ρ h
 | .loop b,.loop js x,Q,ρ,h=>fO (js.all λs=>mw (fK b) s.1)
  (X9 (l4 js) (λI=>qT js ρ I h) λJ=>lam (l4 js) λvs h'=>gU P N b x (ua (λρ' h''=>qT js ρ' J h'') Q) (iu (ρ.dU (fK b)) js vs) h')
 | _,_,_,_,_=>False
theorem LY {F:Fence}{c:Code}{Q:Exit->Act->World->Prop}{a:Act}{w:World}(I:Nat->Act->World->Prop)(h0:∃n,I n a w)
 (round:∀n a w,I n a w->c.wpIn F m0 P (Exit.then (λa' w'=>∃m,m<n/\I m a' w') Q) a w):(Code.loop c).wpIn F m0 P Q a w:=by
 refine wpIn_loop (λa w=>∃n,I n a w) (λa w=>ud λn=>I n a w) h0 λa w g=>?_;refine wpIn_mono (round _ a w (GF g)) λe a' w' d=>?_;cases e<;>try exact d
 obtain⟨m,i,b⟩:=d;exact⟨⟨m,b⟩,BV (FB b) i⟩
theorem Kn {N:Nat}:∀(c:Code) {x:Hn} {Q:Exit->Env->Hp->Prop} {Q':Exit->Act->World->Prop} {ρ:Env} {a:Act} {w:World},
 gU P N c x Q ρ w.heap->Fits N ρ a->(∀e ρ' a' w',Fits N ρ' a'->W7 w w'->KI (fK c) ρ ρ'->Q e ρ' w'.heap->Q' e a' w')->c.wpIn (Fw none) m0 P Q' a w
 | .skip,x,Q,Q',ρ,a,w,h,hf,hq=>by
  have h':Q .normal ρ w.heap:=by cases x<;>exact h
  exact wpIn_skip (hq _ ρ a w hf (.refl _) (.refl _ _) h')
 | .ret,x,Q,Q',ρ,a,w,h,hf,hq=>by
  have h':Q .ret ρ w.heap:=by cases x<;>exact h
  exact wpIn_ret (hq _ ρ a w hf (.refl _) (.refl _ _) h')
 | .exit id,x,Q,Q',ρ,a,w,h,hf,hq=>by
  have h':Q (.exit id) ρ w.heap:=by cases x<;>exact h
  exact wpIn_exit (hq _ ρ a w hf (.refl _) (.refl _ _) h')
 | .region id ops d,x,Q,Q',ρ,a,w,h,hf,hq=>by
  cases x
  case cR r=>
   have h':l8 P N r ops d ρ w.heap λρ' h'=>Q .normal ρ' h':=by cases d<;>simpa only[gU]using h
   exact wpIn_wide.2 (Cq h' hf λρ' a' w' b p s g=>hq _ ρ' a' w' b p s g)
  case leaf=>
   cases d<;>simp only[gU]at h
   refine wpIn_region_list (GL h hf λρ' a' w' b p s g=>hq _ ρ' a' w' b p s g)
  all_goals (cases d<;>simp only[gU]at h)
 | .seq c1 c2,x,Q,Q',ρ,a,w,h,hf,hq=>by
  cases x<;>simp only[gU]at h
  refine wpIn_seq (Kn c1 h hf λe ρ' a' w' b p s g=>?_);cases e
  case normal=>exact Kn c2 g b λe ρ'' B A j u K F=>hq e ρ'' B A j (p.trans u) (s.trans K) F
  all_goals exact hq _ ρ' a' w' b p (s.mono λi y=>kv _ y) g
 | .cond c c1 c2,x,Q,Q',ρ,a,w,h,hf,hq=>by
  cases x<;>simp only[gU]at h
  obtain⟨t,V,h⟩:=Kg h;refine wpIn_cond_split (hf.ev _ _ V) (λe=>?_) (λe=>?_)
  ·exact Kn c1 (h.t e) hf λe ρ' a' w' b p s g=>hq e ρ' a' w' b p (s.mono λi y=>kv _ y) g
  ·exact Kn c2 (h.f e) hf λe ρ' a' w' b p s g=>hq e ρ' a' w' b p (s.mono λi y=>nJ _ y) g
 | .block id c1,x,Q,Q',ρ,a,w,h,hf,hq=>by
  cases x<;>simp only[gU]at h
  refine wpIn_block (Kn c1 h hf λe ρ' a' w' b p s g=>?_);cases e
  case exit i=>
   simp only[vq]at g;simp only[Exit.inBlock];split at g
   ·rename_i e;have M:i=id:=zy e;rw[zC M];exact hq _ ρ' a' w' b p s g
   ·rename_i e;have M:i≠id:=λh=>by subst h;simp at e
    rw[zB M];exact hq _ ρ' a' w' b p s g
  all_goals exact hq _ ρ' a' w' b p s g
 | .loop c1,x,Q,Q',ρ,a,w,h,hf,hq=>by
  cases x<;>simp only[gU]at h
  rename_i js x;rw[Wu]at h;obtain⟨E,I,μ,H,U⟩:=h;refine LY (λn a' w'=>∃vs,Fits N (iu (ρ.dU (fK c1)) js vs) a'/\W7 w w'/\Sat (l4 js) (HR (l4 js) I μ (· = n)) vs w'.heap) ?_ ?_
  ·obtain⟨vs,R,H⟩:=UF H;obtain⟨n,L⟩:=UM μ H;exact⟨n,vs,Q1 js (hf.weaken (GD _ _)) hf R,.refl _,L⟩
  ·rintro n a' w' ⟨vs,b,p,L⟩;have:=VG (L.mono (U n));have S:=(Ut (fK c1) ρ).trans (Kl (fK c1) js (ρ.dU (fK c1)) vs E);refine Kn c1 this b λe ρ'' B A j u s g=>?_;have z:KI (fK c1) ρ ρ'':=(S.trans s).mono λi y=>by
    simp only[zL]at y;rcases y with(h|h)|h<;>exact h
   cases e
   case normal=>
    obtain⟨G,D,J⟩:=UF g;obtain⟨m,W,C⟩:=HE J;exact⟨m,W,G,Q1 js (VB j z) j D,p.trans u,C⟩
   all_goals exact hq _ ρ'' B A j (p.trans u) z g
 | .scope ..,x,Q,Q',ρ,a,w,h,hf,hq=>(by cases x<;>simp only[gU]at h)
 | .label ..,x,Q,Q',ρ,a,w,h,hf,hq=>(by cases x<;>simp only[gU]at h)
 | .rangeFunc ..,x,Q,Q',ρ,a,w,h,hf,hq=>(by cases x<;>simp only[gU]at h)
 | .goto ..,x,Q,Q',ρ,a,w,h,hf,hq=>(by cases x<;>simp only[gU]at h)
 | .refuse ..,x,Q,Q',ρ,a,w,h,hf,hq=>(by cases x<;>simp only[gU]at h)
def Aa (P:Program)(f:Nat)(args:Array Value)(h:Hp)(R:aP):Prop:=
 ∀w:World,w.heap=h->∀m,CallsIn Fence.wide m P f args w λe w'=>W7 w w'/\(∃v,e=.returned v)/\R w'.heap
def CD (P:Program)(fn:Func)(x:Hn)(args:List Value)(R:aP)(h:Hp):Prop:=
 match fn.body with
 | some c=>fO (Nat.ble args.length fn.ntmps&&fn.results.isEmpty) (gU P fn.ntmps c x (λe ρ h=>match e with | .normal=>R h | .ret=>R h|_=>False) (HV args) h)
 | none=>False
theorem O7 {f:Nat}{fn:Func}{x:Hn}{args:List Value}{R:aP}{h:Hp}(hfn:P.funcs[f]?=some fn)(hk:CD P fn x args R h):Aa P f args.toArray h R:=by
 intro w hw m;subst hw;unfold CD at hk;split at hk
 case h_2=>exact hk.elim
 rename_i c hb;rw[Wu]at hk;obtain⟨d,hk⟩:=hk;simp only[zF,xJ]at d;have y:args.length<=fn.ntmps:=xE d.1;refine callsIn_of_wp_marks hfn hb trivial ?_;have b:∀a w,(results fn a).run P w=.ok (.tuple #[]) w:=λa w=>by
  simp[results,d.2]
 refine Kn c hk (ρ:=HV args) ⟨rfl,by simp;omega,λi v g=>?_⟩ λe z r A s u B j=>?_
 ·simp only[HV]at g;have p:i<args.length:=(cV.1 g).1;rw[tB (by simpa using p)];simpa using g
 ·cases e
  case normal=>
   show LeavesInM _ _ _ _ _ _ r.defers _ _;rw[s.defers];exact⟨_,b _ _,u,⟨_,rfl⟩,j⟩
  case ret=>
   show LeavesInM _ _ _ _ _ _ r.defers _ _;rw[s.defers];exact⟨_,b _ _,u,⟨_,rfl⟩,j⟩
  all_goals exact j.elim
end Go.Vc
namespace Go.Vc
open Go
variable {m0:Nat}{P:Program}
def vB (P:Program)(fv:Fv)(xs:List (List Value))(Kp:aP):Prop:=
 ∀(l:Nat) (J:Nat->Hp->Prop),(∀k h h',J k h->bK h h'->J k h')->(∀k h,J k h->Kp h) →
  (∀k x,xs[k]?=some x->∀h,J k h->Ha P l x h λb h'=>b=true/\J (k+1) h') →
  ∀h,J 0 h->Aa P fv.f (#[.func (.yield l) #[] #[]]++fv.captured) h λh'=>J xs.length h'
def yL (P:Program){α:Type}(enc:α->List Value)(fv:Fv)(h:Hp)(round:α->(Hp->Prop)->Hp->Prop)(K:aP):Prop:=
 fv.first = #[]/\VJ P fv.f=true/\∃(xs:List α) (Kp:aP) (I:Nat->Hp->Prop),vB P fv (xs.map enc) Kp/\(∀k s s',I k s->Ext (λb=>b=h.size\/b=h.size+1) s s'->I k s')/\(∀k s,I k s->Kp s)/\I 0 h ∧
  (∀k x,xs[k]?=some x->∀s,I k s->h.size+2<=s.size->round x (λs'=>I (k+1) s'/\s'[h.size]?=s[h.size]?/\s'[h.size+1]?=s[h.size+1]?) s) ∧
  (∀s,I xs.length s->s[h.size]?=some (.deferred (some []))->K s)
def oL:List Nat->List Value->Env->Env
 | p::ps,v::vs,ρ=>oL ps vs (ρ.put p v)
 | _,_,ρ=>ρ
theorem DK {N:Nat}:∀(ps:List Nat) (vs:List Value) {ρ:Env} {t:Array Value},(∀p∈ps,p<N)->Fits N ρ {tmps:=t,defers:=[]}->Fits N (oL ps vs ρ) {tmps:=(ps.zip vs).foldl (λt (x:Nat×Value)=>t.setIfInBounds x.1 x.2) t,defers:=[]}
 | [],vs,ρ,t,_,hf=>by cases vs<;>exact hf
 | p::ps,[],ρ,t,_,hf=>hf
 | p::ps,v::vs,ρ,t,hp,hf=>by
  have h1:=hf.put (d:=some p) (show Nat.blt p N=true by rw[Nat.blt_eq];exact hp p pw) v;exact DK ps vs (λq a=>hp q (nB _ a)) h1
def qe (N:Nat):List Oper->Env->Option Env
 | [],ρ=>some ρ
 | o::os,ρ=>match o.op,o.dst,o.guard with
  | .assign x,some d,none=>match ev ρ x with
   | some v=>bif Nat.blt d N then qe N os (ρ.put d v)else none
   | none=>none
  | _,_,_=>none
def qB (N:Nat):Code->Env->Option Env
 | .region _ ops false,ρ=>qe N ops.toList ρ
 | .skip,ρ=>some ρ
 | _,_=>none
theorem Ch {N:Nat}{F:Fence}{ops:Array Oper}{Q:Exit->Act->World->Prop}(hF:∀f,F.fn f):∀{os:List Oper} {ρ ρ':Env} {a:Act} {w:World},qe N os ρ=some ρ'->Fits N ρ a->(∀a',Fits N ρ' a'->Q .normal a' w)->wpListIn F m0 P ops Q os a w
 | [],ρ,ρ',a,w,h,hf,hq=>by cases h;exact hq a hf
 | o::os,ρ,ρ',a,w,h,hf,hq=>by
  unfold qe at h;split at h
  ·rename_i x d hop hd hg;split at h
   ·rename_i v hv;cases hb:Nat.blt d N with
    | false=>rw[hb]at h;cases h
    | true=>
     rw[hb]at h;have hw:Region.wanted o (yielded ops a.tmps)=true:=by simp[Region.wanted,hg]
     simp only[wpListIn,hw,zR];refine⟨λf _=>hF f,?_⟩;rw[Oper.semAt_eq _ _ _ (λc e=>by rw[hop]at e;cases e)];have g:(execOp a.eval o).run P w=.ok (.value v) w:=by
      unfold execOp;rw[hop];simp only;rw[Sem.run_pure,hf.ev x v hv]
     rw[g];have b:=hf.put (d:=some d) hb v;rw[Oper.uponIn_value,hd];exact Ch hF h b hq
   ·cases h
  ·cases h
theorem Pv {N:Nat}{F:Fence}{c:Code}{Q:Exit->Act->World->Prop}(hF:∀f,F.fn f){ρ ρ':Env}{a:Act}{w:World}(h:qB N c ρ=some ρ')(hf:Fits N ρ a)(hq:∀a',Fits N ρ' a'->Q .normal a' w):c.wpIn F m0 P Q a w:=by
 unfold qB at h;split at h
 ·exact wpIn_region_list (Ch hF h hf hq)
 ·cases h;exact wpIn_skip (hq a hf)
 ·cases h
def wN (P:Program)(N n:Nat){α:Type}(enc:α->List Value)(fv:Fv)(ps:Array Nat)(asg bd:Code)(x:Hn)(ρ:Env)(h:Hp)(K:aP):Prop:=
 fO (Nat.beq ps.toList.length n&&(ps.toList.all (λp=>Nat.blt p N)&&nL P true bd x))
  (yL P enc fv h (λy J s=>match qB N asg (oL ps.toList (enc y) ρ)with
   | some ρ'=>iA P N bd x (λe _ s'=>match e with | .normal=>J s'|_=>False) ρ' s
   | none=>False) K)
theorem Hj {w:World}{o:Obj}{b:Nat}(h:b<w.heap.size):(w.alloc o).heap[b]?=w.heap[b]? := by
 show(w.heap.push o)[b]?=w.heap[b]?;rw[wD,zB O]
theorem Uq (w:World)(l:Nat)(o:Obj):W7 w (w.putObj l o):=⟨rfl,rfl,rfl,by simp⟩
theorem yQ {w:World}{l:Nat}{o:Obj}{F:Nat->Prop}(hl:F l):Ext F w.heap (w.putObj l o).heap:=⟨by simp,λb d a=>World.putObj_heap_other λe=>a (by rw[e];exact hl)⟩
theorem G2 {N n:Nat}{α:Type}{enc:α->List Value}(henc:∀y,(enc y).length=n){fv:Fv}{g:Operand}{ps:Array Nat}{asg bd:Code}{x:Hn}{ρ:Env}{a:Act}{w:World}{K:aP}{Q:Exit->Act->World->Prop}
 (hg:a.eval g=.func (.func fv.f) fv.first fv.captured) (hf:Fits N ρ a) (h:wN P N n enc fv ps asg bd x ρ w.heap K)
 (hQ:∀w',W7 w w'->w'.heap[w.heap.size]?=some (.deferred (some []))->K w'.heap->Q .normal {a with defers:={target:=.collected w.heap.size,args := #[]}::a.defers} w'):(Code.rangeFunc g ps asg bd).wpIn Fence.wide m0 P Q a w:=by
 unfold wN at h;rw[Wu]at h;obtain⟨hc,C,G,xs,Kp,I,M,m,hKp,h0,r,Y⟩:=h;simp only[zF,j6]at hc;obtain⟨hn,ad,af⟩:=hc;have S:∀y,(enc y).length=ps.size:=λy=>by
  rw[henc y,←zy hn];simp
 rw[C]at hg;refine wpIn_rangeFunc ?_;intro fn hfn;obtain⟨i,d⟩:∃i:LoopState->Option Code->Loop,i=λst pe=>{state:=st,pending:=pe,fn,tmps:=a.tmps,params:=ps,assign:=asg,body:=bd,defers:=w.heap.size}:=⟨_,rfl⟩;obtain⟨W1,j⟩:∃W1,(w.alloc (.deferred (some []))).alloc (.loop (i .ready none))=W1:=⟨_,rfl⟩;have hsz:W1.heap.size=w.heap.size+2:=by rw[←j];simp
 have hL1:W1.heap[w.heap.size+1]?=some (.loop (i .ready none)):=by
  rw[←j];have:=World.alloc_heap_new (w.alloc (.deferred (some []))) (.loop (i .ready none));rwa [World.size_alloc]at this
 have ab:W1.heap[w.heap.size]?=some (.deferred (some [])):=by
  rw[←j];exact(Hj aA).trans (World.alloc_heap_new w _)
 have ae:bK w.heap W1.heap:=⟨O,λb u _=>by
  rw[←j];exact(Hj aE).trans (Hj u)⟩
 have aa:W7 w W1:=⟨by rw[←j];rfl,by rw[←j];rfl,by rw[←j];rfl,O⟩;have X:∀{s s':Hp},bK s s'->Ext (λb=>b=w.heap.size\/b=w.heap.size+1) s s':=λe=>⟨e.1,λb u _=>e.2 b u id⟩;have bS:∀{s s':Hp} {b:Nat} {o:Obj},bK s s'->s[b]?=some o->s'[b]?=some o:=λe u=>(e.2 _ (zt.1 u).1 id).trans u;refine⟨w.heap.size+1,[{target:=.collected w.heap.size,args := #[]}],W1,{target:=.fn (.func fv.f) fv.captured,args := #[.func (.yield (w.heap.size+1)) #[] #[]]},W1,fv.f,
  #[.func (.yield (w.heap.size+1)) #[] #[]]++fv.captured,W1,?_,?_,λ_ _=>trivial,?_,λh=>by simp[Fence.wide]at h,?_⟩
 ·rw[←j,d];exact run_enterLoop_outer _ _ _ _ _
 ·simp only[resolve,hg];simp[go_sem]
 ·simp only[invoke];exact Vd G _ _
 ·refine(M (w.heap.size+1) (λk s=>I k s/\s[w.heap.size+1]?=some (.loop (i .ready none))/\s[w.heap.size]?=some (.deferred (some [])))
   (λk s s' R e=>⟨m k s s' R.1 (X e),bS e R.2.1,bS e R.2.2⟩) (λk s R=>hKp k s R.1) ?_ W1.heap ⟨m 0 _ _ h0 (X ae),hL1,ab⟩ W1 rfl (m0-1)).mono ?_
  ·rintro k xv hx s ⟨hI,hl,hk⟩ W rfl;rw[za,oF]at hx;obtain⟨y,hy,rfl⟩:=hx;have ac:w.heap.size+1<W.heap.size:=(zt.1 hl).1;have V:=run_yield (P:=P) (args:=(enc y).toArray) hl (by rw[d];simpa using S y);rw[d]at V;refine⟨fn,_,asg,bd,V,roundIn_of_wpIn trivial ?_⟩;have hr:=r k y hy;cases hasg:qB N asg (oL ps.toList (enc y) ρ)with
   | none=>
    have:=hr W.heap hI O;simp only[hasg]at this
   | some ρ'=>
    have Z:Fits N (oL ps.toList (enc y) ρ) {tmps:=(ps.zip (enc y).toArray).foldl (λtmps (t,a)=>tmps.setIfInBounds t a) a.tmps,defers:=[]}:=by
     have h1:=DK ps.toList (enc y) (t:=a.tmps) (λp hp=>by have:=ad p hp;rwa [Nat.blt_eq]at this) (by
      have:=hf;exact⟨rfl,this.size,this.at_⟩)
     have h2:(ps.zip (enc y).toArray).foldl (λtmps (t,a)=>tmps.setIfInBounds t a) a.tmps=(ps.toList.zip (enc y)).foldl (λt (x:Nat×Value)=>t.setIfInBounds x.1 x.2) a.tmps:=by
      rw[←Array.foldl_toList];simp
     rw[h2];exact h1
    refine Pv (F:=Fence.wide.inRound (w.heap.size+1)) (λf=>trivial) hasg Z λa1 D=>⟨_,run_beginRound hl (by rw[d]),?_⟩;have E:(W.putObj (w.heap.size+1) (.loop {i .ready none with state:=.busy})).heap[w.heap.size+1]?=some (.loop {i .ready none with state:=.busy}):=World.putObj_heap_same ac;have A:(W.putObj (w.heap.size+1) (.loop {i .ready none with state:=.busy})).heap[w.heap.size]?=some (.deferred (some [])):=(World.putObj_heap_other O).trans hk;have u:=hr (W.putObj (w.heap.size+1) (.loop {i .ready none with state:=.busy})).heap (m k _ _ hI (yQ (.inr rfl))) (by rw[World.putObj_size];omega);simp only[hasg]at u;refine QU (ro:=some (w.heap.size+1)) (m0:=0) (ds:=[]) bd u af ⟨by rw[VO D.defers];exact D,D.defers⟩ λe ρ2 a2 w2 hf2 J hq=>?_;cases e
    case normal=>
     obtain⟨z,L,H⟩:=hq;rw[E]at H;rw[A]at L;have B:=run_endRound (P:=P) none H;refine⟨_,_,B,((Uq _ _ _).trans J).trans (Uq _ _ _),true,rfl,rfl,m _ _ _ z (yQ (.inr rfl)),?_,(World.putObj_heap_other O).trans L⟩;rw[World.putObj_heap_same (zt.1 H).1,d];rfl
    all_goals exact hq.elim
  ·rintro e W2 ⟨J,⟨v,rfl⟩,z,E,A⟩;have B:=run_endLoop (P:=P) E (by rw[d];simp);refine⟨none,_,by rw[d]at B;exact B,?_⟩;have hlt2:=(zt.1 A).1;rw[zl]at z;have U:∀o,(W2.putObj (w.heap.size+1) o).heap[w.heap.size]?=some (.deferred (some [])):=λo=>(World.putObj_heap_other O).trans A;exact hQ _ ((aa.trans J).trans (Uq _ _ _)) (U _) (Y _ (m _ _ _ z (yQ (.inr rfl))) (U _))
def uP (D:Nat)(s:Hp)(K:aP):Prop:=s[D]?=some (.deferred (some []))/\K (s.setIfInBounds D (.deferred none))
def od (P:Program)(fn:Func)(rs:List SK)(R:eN (eU rs))(D:Nat):Exit->Env->Hp->Prop
 | .normal,ρ,h=>uP D h λh'=>lh P fn.results.toList rs ρ h' λvs=>rm (eU rs) R vs h'
 | .ret,ρ,h=>uP D h λh'=>lh P fn.results.toList rs ρ h' λvs=>rm (eU rs) R vs h'
 | _,_,_=>False
inductive TX where
 | nx (x:Hn) (t:TX)
 | r1 (y:Hn) (c:CK) (bd b:Hn)
 | r2 (y:Hn) (c d:CK) (bd b:Hn)
def e1 (c:CK)(y:c.T):List Value:=[c.v y]
def e2 (c d:CK)(y:c.T×d.T):List Value:=[c.v y.1,d.v y.2]
def tu (P:Program)(fn:Func)(rs:List SK)(R:eN (eU rs)):Code->TX->Env->Hp->Prop
 | .seq a b,.nx x t,ρ,h=>iA P fn.ntmps a x (ua (λρ' h'=>tu P fn rs R b t ρ' h') (nV P fn rs R)) ρ h
 | .seq (.seq r (.block _ (.rangeFunc g ps asg bd))) b,.r1 y c yb yc,ρ,h=>iA P fn.ntmps r y (λe ρ' h'=>match e with
  | .normal=>wv (ev ρ' g) λvg=>mM .fn vg λfv=>fO (nL P false b yc) (wN P fn.ntmps 1 (e1 c) fv ps asg bd yb ρ' h' λs=>iA P fn.ntmps b yc (od P fn rs R h'.size) ρ' s)
  | _=>False) ρ h
 | .seq (.seq r (.block _ (.rangeFunc g ps asg bd))) b,.r2 y c d yb yc,ρ,h=>iA P fn.ntmps r y (λe ρ' h'=>match e with
  | .normal=>wv (ev ρ' g) λvg=>mM .fn vg λfv=>fO (nL P false b yc) (wN P fn.ntmps 2 (e2 c d) fv ps asg bd yb ρ' h' λs=>iA P fn.ntmps b yc (od P fn rs R h'.size) ρ' s)
  | _=>False) ρ h
 | _,_,_,_=>False
theorem UV {fn:Func}{rs:List SK}{R:eN (eU rs)}{w0:World}{e:Exit}{ρ:Env}{a:Act}{w:World}(hf:Fits fn.ntmps ρ a)(io:W7 w0 w)(h:nV P fn rs R e ρ w.heap) :
 bodyPostM Fence.wide m0 P fn (λe w'=>W7 w0 w'/\∃vs,e=.returned (pack rs vs)/\Sat (eU rs) R vs w'.heap) e a w:=by
 cases e<;>simp only[nV]at h
 case normal=>
  obtain⟨vs,d,b⟩:=KP hf h;show LeavesInM _ _ _ _ _ _ a.defers _ _;rw[hf.defers];exact⟨_,b,io,vs,rfl,UI d⟩
 case ret=>
  obtain⟨vs,d,b⟩:=KP hf h;show LeavesInM _ _ _ _ _ _ a.defers _ _;rw[hf.defers];exact⟨_,b,io,vs,rfl,UI d⟩
theorem RX {fn:Func}{rs:List SK}{R:eN (eU rs)}{w0:World}{D:Nat}{e:Exit}{ρ:Env}{a:Act}{w:World}(hf:lz [{target:=.collected D,args := #[]}] fn.ntmps ρ a)(io:W7 w0 w)(h:od P fn rs R D e ρ w.heap) :
 bodyPostM Fence.wide m0 P fn (λe w'=>W7 w0 w'/\∃vs,e=.returned (pack rs vs)/\Sat (eU rs) R vs w'.heap) e a w:=by
 have b:∀{K:List Value->Prop},(uP D w.heap λi=>lh P fn.results.toList rs ρ i λvs=>rm (eU rs) R vs i) →
  LeavesInM Fence.wide m0 P fn a.tmps (λe w'=>W7 w0 w'/\∃vs,e=.returned (pack rs vs)/\Sat (eU rs) R vs w'.heap) a.defers .returning w:=by
  intro K hd;obtain⟨m,g⟩:=hd;rw[hf.d];obtain⟨vs,j,p⟩:=KP (w:=w.putObj D (.deferred none)) hf.f g;exact⟨by simp,.inl ⟨_,_,rfl,run_takeDeferred m,_,p,io.trans (Uq _ _ _),vs,rfl,UI j⟩⟩
 cases e<;>simp only[od]at h
 case normal=>exact b (K:=λ_=>True) h
 case ret=>exact b (K:=λ_=>True) h
theorem Rr {fn:Func}{rs:List SK}{R:eN (eU rs)}{w0:World}:∀(c:Code) {t:TX} {ρ:Env} {a:Act} {w:World},tu P fn rs R c t ρ w.heap->Fits fn.ntmps ρ a->W7 w0 w →
 c.wpIn Fence.wide m0 P (bodyPostM Fence.wide m0 P fn (λe w'=>W7 w0 w'/\∃vs,e=.returned (pack rs vs)/\Sat (eU rs) R vs w'.heap)) a w:=by
 intro c;have K:∀{α:Type} {n:Nat} {enc:α->List Value} (henc:∀y,(enc y).length=n) {r b:Code} {y yb yc:Hn} {id:Nat} {g:Operand} {ps:Array Nat} {asg bd:Code} {ρ:Env} {a:Act} {w:World},
  iA P fn.ntmps r y (λe u M=>match e with
   | .normal=>wv (ev u g) λL=>mM .fn L λJ=>fO (nL P false b yc) (wN P fn.ntmps n enc J ps asg bd yb u M λs=>iA P fn.ntmps b yc (od P fn rs R M.size) u s)
   | _=>False) ρ w.heap->Fits fn.ntmps ρ a->W7 w0 w →
  (Code.seq (.seq r (.block id (.rangeFunc g ps asg bd))) b).wpIn Fence.wide m0 P (bodyPostM Fence.wide m0 P fn (λe w'=>W7 w0 w'/\∃vs,e=.returned (pack rs vs)/\Sat (eU rs) R vs w'.heap)) a w:=by
  intro α n enc henc r b y yb yc id g ps asg bd ρ a w h hf io;refine wpIn_seq (wpIn_seq (wpIn_wide.2 (Qj r h hf λe u G w' j m U p=>?_)));cases e
  case normal=>
   obtain⟨L,S,A⟩:=Wr p;obtain⟨J,rfl,z⟩:=Vz A;rw[Wu]at z;obtain⟨F,B⟩:=z;refine wpIn_block (G2 henc (j.ev _ _ S) j B λW C X N=>?_);have E:lz [{target:=.collected w'.heap.size,args := #[]}] fn.ntmps u {G with defers:={target:=.collected w'.heap.size,args := #[]}::G.defers}:=
    ⟨⟨rfl,j.size,j.at_⟩,by simp only[j.defers]⟩
   exact QU (ro:=none) (ds:=[{target:=.collected w'.heap.size,args := #[]}]) b N F E λe V Y Z H D Q=>RX H (((io.trans m).trans C).trans D) Q
  all_goals exact p.elim
 induction c with
 | seq a b iha ihb=>
  intro t ρ act w h hf io;cases t with
  | nx x t=>
   simp only[tu]at h;refine wpIn_seq (wpIn_wide.2 (Qj a h hf λe u G w' j m U p=>?_));cases e
   case normal=>exact ihb p j (io.trans m)
   case ret=>exact UV (m0:=m0) (P:=P) (e:=.ret) (R:=R) j (io.trans m) p
   case exit i=>exact UV (m0:=m0) (P:=P) (e:=.exit i) (R:=R) j (io.trans m) p
   case goto i=>exact UV (m0:=m0) (P:=P) (e:=.goto i) (R:=R) j (io.trans m) p
   case panic i=>exact UV (m0:=m0) (P:=P) (e:=.panic i) (R:=R) j (io.trans m) p
   case outgrown=>exact UV (m0:=m0) (P:=P) (e:=.outgrown) (R:=R) j (io.trans m) p
  | r1 y c yb yc=>
   unfold tu at h;split at h
   case h_1 hx=>cases hx
   case h_2 heq hx=>cases heq;cases hx;exact K (n:=1) (enc:=e1 _) (λ_=>rfl) h hf io
   case h_3 hx=>cases hx
   case h_4=>exact h.elim
  | r2 y c d yb yc=>
   unfold tu at h;split at h
   case h_1 hx=>cases hx
   case h_2 hx=>cases hx
   case h_3 heq hx=>cases heq;cases hx;exact K (n:=2) (enc:=e2 _ _) (λ_=>rfl) h hf io
   case h_4=>exact h.elim
 | _=>intro t ρ act w h hf io;cases t<;>simp[tu]at h
def DL (P:Program)(fn:Func)(x:TX)(args:List Value)(rs:List SK)(R:eN (eU rs))(h:Hp):Prop:=
 match fn.body with
 | some c=>fO (Nat.ble args.length fn.ntmps) (tu P fn rs R c x (HV args) h)
 | none=>False
theorem Dq {f:Nat}{fn:Func}{x:TX}{args:List Value}{rs:List SK}{R:eN (eU rs)}{h:Hp}(hfn:P.funcs[f]?=some fn)(hk:DL P fn x args rs R h):Wc P f args.toArray rs h R:=by
 intro w hw;subst hw;unfold DL at hk;split at hk
 case h_2=>exact hk.elim
 rename_i c hb;rw[Wu]at hk;obtain⟨b,hk⟩:=hk;have e:args.length<=fn.ntmps:=xE b;refine callsIn_wide.1 (callsIn_of_wp_marks (n:=0) hfn hb trivial (Rr c hk ⟨rfl,by simp;omega,λi v a=>?_⟩ (.refl _)));simp only[HV]at a;have d:i<args.length:=(cV.1 a).1;rw[tB (by simpa using d)];simpa using a
end Go.Vc
namespace Go.Proofs
open Go.Vc
set_option maxRecDepth 100000
def WT.h:Hn:=.q .o1 (.q (.q .o3 .aJ) (.q (.q .o1 (.k (.loop [(3,.I)] (.q (.q .o4 (.c .l .l)) (.q (.k (.q (.oq 10) (.c (.q .o4 (.q (.q .o1 (.k (.loop [(3,.I),(5,.I)] (.q (.q .o4 (.c .l .l)) (.q (.k (.q (.oq 10) (.c (.q .o8 .o3) .l))) .o3))))) (.q .o4 (.q .o4 .l)))) .l))) .o3))))) .aL))
def WT.v (a:Sl)(b:Hp)(c:Sl->Hp->Prop):Prop:=If (((a.len:Nat):Int)<2) (c a b) (X9 [bN] (λd=>d 1 b) λe (f:Int) g=>If (f<((a.len:Nat):Int)) (Ix a.a a.len f 1 λh=>bM h g λi=>bL (f-1) λj=>Ix a.a a.len j 1 λk=>bM k g λl=>If (i==l) (eY a 1 f (a.len:Nat) (a.cap:Nat) λm=>X9 [bN,bN] (λn=>n f 1 g) λo (p:Int) (q:Int) r=>If (q<((m.len:Nat):Int)) (Ix m.a m.len q 1 λs=>bM s r λt=>bL (q-1) λu=>Ix m.a m.len u 1 λv=>bM v r λw=>If (t != w) (Ix m.a m.len q 1 λx=>bM x r λy=>Ix a.a a.len p 1 λz=>dS z (.I y) r λaa=>bL (p+1) λab=>bL (q+1) λac=>o ab ac aa) (bL (q+1) λad=>o p ad r)) (eY a 1 p (a.len:Nat) (a.cap:Nat) λae=>xh ae [.I 0] r λaf=>eY a 1 0 p (a.cap:Nat) λag=>c ag af)) (bL (f+1) λah=>e ah g)) (c a g))
theorem WT.o {a b c}(d:WT.v a b c):WT.c a b c:=Wa Tryz.func55 (x:=WT.h) (R0 d)
def Z0.vu (l:Nat)(cap0:Addr)(U:Hp)(R:aP):Prop:=
 ld cap0 U λt4=>
 nM .i64 (.ag 5) t4 U λit v=>
 X9 [] (λI=>I v) λJ v1=>
 nU .i64 (.ag 5) it v1 (R v1)
  (λkey val v2=>
  nI .i64 (.ag 5) it v2 λkey1 val1=>
  Ha Tryz.prog l [.int .i64 key1] v2 λmore v3=>
  If (!more) (R v3)
   (J v3))
def Qd.vu (l:Nat)(cap0:Addr)(U:Hp)(R:aP):Prop:=
 ld cap0 U λt4=>
 nM .i64 (.ag 4) t4 U λit v=>
 X9 [] (λI=>I v) λJ v1=>
 nU .i64 (.ag 4) it v1 (R v1)
  (λkey val v2=>
  nI .i64 (.ag 4) it v2 λkey1 val1=>
  Ha Tryz.prog l [.int .i64 key1] v2 λmore v3=>
  If (!more) (R v3)
   (J v3))
def Wi.h:Hn:=.q .o1 (.q (.q .o2 .aK) (.q .o4 .l))
def Wi.v (a:Sl)(b:Hp)(c:Sl->Hp->Prop):Prop:=If a.a.isNone (c ⟨none,0,0⟩ b) (aV #[] 137 b λd e=>App ⟨some d,0,0⟩ 3 24 137 [.I 0,.I 0,.I 0] a e λf g=>c f g)
theorem Wi.o {a b c}(d:Wi.v a b c):Wi.c a b c:=Wa Tryz.func93 (x:=Wi.h) (R0 d)
def WC.h:Hn:=.q .o1 (.q (.q .o2 .aK) (.q .o4 .l))
def WC.v (a:Sl)(b:Hp)(c:Sl->Hp->Prop):Prop:=If a.a.isNone (c ⟨none,0,0⟩ b) (aV #[] 3 b λd e=>App ⟨some d,0,0⟩ 1 8 3 [.I 0] a e λf g=>c f g)
theorem WC.o {a b c}(d:WC.v a b c):WC.c a b c:=Wa Tryz.func98 (x:=WC.h) (R0 d)
def Wj.h:Hn:=.q .o2 (.q .o5 .l)
def Wj.v (a:Sl)(b c:Bool)(d:Hp)(e:aO):Prop:=aV #[.bool b,.bool c] 161 d λf g=>aZ f 0 g λh=>aZ f 1 g λi=>Wn.c a h i g λj k=>e (decide (j≥0)) k
theorem Wj.o {a b c d e}(f:Wj.v a b c d e):Wj.c a b c d e:=Wa Tryz.func130 (x:=Wj.h) (R0 f)
def Wq.h:Hn:=.q .o1 (.q (.q .o2 .aK) (.q .o4 .l))
def Wq.v (a:Sl)(b:Hp)(c:Sl->Hp->Prop):Prop:=If a.a.isNone (c ⟨none,0,0⟩ b) (aV #[] 135 b λd e=>App ⟨some d,0,0⟩ 2 32 135 [.I 0,.slice none 0 0] a e λf g=>c f g)
theorem Wq.o {a b c}(d:Wq.v a b c):Wq.c a b c:=Wa Tryz.func161 (x:=Wq.h) (R0 d)
def Wn.h:Hn:=.q .o2 (.q (.q .o3 (.k (.loop [(8,.I)] (.q .o1 (.q (.c .l .l) (.q (.k (.q .o2 (.q (.oq 6) .aJ))) .o2)))))) .aM)
def Wn.v (a:Sl)(b c:Bool)(d:Hp)(e:aN):Prop:=aV #[.bool b,.bool c] 161 d λf g=>X9 [bN] (λh=>h 0 g) λi (j:Int) k=>If (j<((a.len:Nat):Int)) (aZ f 0 k λl=>aZ f 1 k λm=>Ix a.a a.len j 2 λn=>aZ n 0 k λo=>aZ n 1 k λp=>If ((l==o)&&((m==p)&&true)) (e j k) (bL (j+1) λq=>i q k)) (e (-1) k)
theorem Wn.o {a b c d e}(f:Wn.v a b c d e):Wn.c a b c d e:=Wa Tryz.func190 (x:=Wn.h) (R0 f)
def Wl.h:Hn:=.q .o1 (.q (.q .o3 (.k (.loop [(8,.I)] (.q .o1 (.q (.c .l .l) (.q (.k (.q .o2 (.q .o6 .aJ))) .o2)))))) .aM)
def Wl.v (a:Sl)(b:Fv)(c:Hp)(d:aN):Prop:=X9 [bN] (λe=>e 0 c) λf (g:Int) h=>If (g<((a.len:Nat):Int)) (Ix a.a a.len g 3 λi=>aQ i 0 h λj=>aQ i 1 h λk=>aQ i 2 h λl=>VM Tryz.prog b [.agg #[.I j,.I k,.I l]] [.one .b] h λm n=>If m (d g n) (bL (g+1) λo=>f o n)) (d (-1) h)
theorem Wl.o {a b c d}(e:Wl.v a b c d):Wl.c a b c d:=Wa Tryz.func202 (x:=Wl.h) (R0 e)
def WR.h:Hn:=.q .o5 (.k (.loop [(2,.I),(3,.I)] (.q (.q .o3 (.c .l .l)) (.q (.k (.cR (.held true [13,15] (.tk [0,1,2,3,4,5,6,7,8,9,10,11,12] (.all [(13,.take 14 (.all [(15,.done)]))]))))) .o6))))
def WR.v (a:Sl)(b:Hp)(c:aP):Prop:=bL (((a.len:Nat):Int)-1) λd=>X9 [bN,bN] (λe=>e 0 d b) λf (g:Int) (h:Int) i=>If (g<h) (eI i λj=>Ix a.a a.len h 1 λk=>gE j bN k λ(l:Int)=>Ix a.a a.len g 1 λm=>gE j bN m λ(n:Int)=>Ix a.a a.len g 1 λo=>dS o (.I l) i λp=>Ix a.a a.len h 1 λq=>dS q (.I n) p λr=>bL (g+1) λs=>bL (h-1) λt=>f s t r) (c i)
theorem WR.o {a b c}(d:WR.v a b c):WR.c a b c:=Wa Tryz.func211 (x:=WR.h) (R0 d)
def We.h:Hn:=.q .o1 (.q .o4 (.q (.q .o2 .aJ) (.q (.q .o3 (.k (.loop [(5,.I),(6,.I)] (.q (.q .o4 (.c .l .l)) (.q (.k (.q .o6 (.q .o4 (.c (.q .o5 .o3) .l)))) .o3))))) (.q .o4 (.q .o4 .l)))))
def We.v (a:Sl)(b:Fv)(c:Hp)(d:Sl->Hp->Prop):Prop:=Wh.c a b c λe f=>If (e==(-1)) (d a f) (bL (e+1) λg=>X9 [bN,bN] (λh=>h e g f) λi (j:Int) (k:Int) l=>If (k<((a.len:Nat):Int)) (Ix a.a a.len k 3 λm=>aQ m 0 l λn=>aQ m 1 l λo=>aY m 2 l λp=>aV #[.I 0,.I 0,.pointer none] 262 l λq r=>aR q 0 (.I n) r λs=>aR q 1 (.I o) s λt=>aR q 2 (.pointer p) t λu=>aQ q 0 u λv=>aQ q 1 u λw=>aY q 2 u λx=>VM Tryz.prog b [.agg #[.I v,.I w,.pointer x]] [.one .b] u λy z=>If (!y) (aQ q 0 z λaa=>aQ q 1 z λab=>aY q 2 z λac=>Ix a.a a.len j 3 λad=>aR ad 0 (.I aa) z λae=>aR ad 1 (.I ab) ae λaf=>aR ad 2 (.pointer ac) af λag=>bL (j+1) λah=>bL (k+1) λai=>i ah ai ag) (bL (k+1) λaj=>i j aj z)) (eY a 3 j (a.len:Nat) (a.cap:Nat) λak=>xh ak [.I 0,.I 0,.pointer none] l λal=>eY a 3 0 j (a.cap:Nat) λam=>d am al))
theorem We.o {a b c d}(e:We.v a b c d):We.c a b c d:=Wa Tryz.func222 (x:=We.h) (R0 e)
def Wk.h:Hn:=.q .o1 (.q (.q .o3 (.k (.loop [(8,.I)] (.q .o1 (.q (.c .l .l) (.q (.k (.q .o2 (.q .o6 .aJ))) .o2)))))) .aM)
def Wk.v (a:Sl)(b:Fv)(c:Hp)(d:aN):Prop:=X9 [bN] (λe=>e 0 c) λf (g:Int) h=>If (g<((a.len:Nat):Int)) (Ix a.a a.len g 1 λi=>fW i h λj=>VM Tryz.prog b [.pointer j] [.one .b] h λk l=>If k (d g l) (bL (g+1) λm=>f m l)) (d (-1) h)
theorem Wk.o {a b c d}(e:Wk.v a b c d):Wk.c a b c d:=Wa Tryz.func249 (x:=Wk.h) (R0 e)
def Wb.h:Hn:=.q .o2 (.q .o3 (.q .o3 (.q (.k (.loop [(9,.I),(10,.I)] (.q (.q .o3 (.c .l .l)) (.k (.q .o7 (.q .o8 (.c .o3 .o2))))))) (.q (.cR (.seq [.op,.op,.op,.op,.op,.cX true 8 (RI.ops 8),.op,.op])) .l))))
def Wb.v (a:Sl)(b:Int)(c:Fv)(d:Hp)(e:Int->Bool->Hp->Prop):Prop:=X9 [bN,bN] (λf=>f 0 ((a.len:Nat):Int) d) λg (h:Int) (i:Int) j=>If (h<i) (bL (h+i) λk=>Ar .u64 k λl=>Nn (1:Int) <| bL (l.fdiv (2^(min (1:Int).toNat IntKind.u64.bits))) λm=>Ix a.a a.len m 3 λn=>aQ n 0 j λo=>aQ n 1 j λp=>aY n 2 j λq=>VM Tryz.prog c [.agg #[.I o,.I p,.pointer q],.I b] [.I] j λr s=>If (r<0) (bL (m+1) λt=>g t i s) (g h m s)) (bV (λu v=>e h u v) λw=>If (h<((a.len:Nat):Int)) (Ix a.a a.len h 3 λx=>aQ x 0 j λy=>aQ x 1 j λz=>aY x 2 j λaa=>VM Tryz.prog c [.agg #[.I y,.I z,.pointer aa],.I b] [.I] j λab ac=>w (ab==0) ac) (w false j))
theorem Wb.o {a b c d e}(f:Wb.v a b c d e):Wb.c a b c d e:=Wa Tryz.func258 (x:=Wb.h) (R0 f)
def Wg.h:Hn:=.q .o1 (.q .o3 (.q .o3 (.q (.q .o2 .aJ) (.q .o3 (.q (.q .o3 (.c (.q .o4 .l) .l)) (.q (.q .o6 (.c (.q .gT (.q .o5 (.q (.cR (.tail 8 (RI.ops 8) [.op])) .aL))) .l)) (.q .o6 (.q (.q .o8 (.c (.q (.cR (.tail 8 (RI.ops 8) [.op])) (.q .o5 .aL)) .l)) (.q .o5 (.q .o5 .aL))))))))))
def Wg.v (a:Sl)(b:Int)(c:Sl)(d:Hp)(e:Sl->Hp->Prop):Prop:=eY a 3 b (a.len:Nat) (a.cap:Nat) λf=>If (((c.len:Nat):Int)==0) (e a d) (If (b==((a.len:Nat):Int)) (App a 3 24 262 [.I 0,.I 0,.pointer none] c d λg h=>e g h) (bL (((a.len:Nat):Int)+((c.len:Nat):Int)) λi=>If (i>((a.cap:Nat):Int)) (eY a 3 0 b (a.cap:Nat) λj=>bL (((a.len:Nat):Int)+((c.len:Nat):Int)) λk=>bL (k-b) λl=>tj j 3 24 262 [.I 0,.I 0,.pointer none] l d λm n=>eY m 3 b (m.len:Nat) (m.cap:Nat) λo=>sD o 3 c n λp q=>bL (b+((c.len:Nat):Int)) λr=>eY m 3 r (m.len:Nat) (m.cap:Nat) λs=>eY a 3 b (a.len:Nat) (a.cap:Nat) λt=>sD s 3 t q λu v=>e m v) (bL (((a.len:Nat):Int)+((c.len:Nat):Int)) λw=>eY a 3 0 w (a.cap:Nat) λx=>bL (b+((c.len:Nat):Int)) λy=>eY x 3 y (x.len:Nat) (x.cap:Nat) λz=>tf Tryz.prog 288 [.slice c.a c.len c.cap,.slice z.a z.len z.cap] d λaa ab=>If (!aa) (bL (b+((c.len:Nat):Int)) λac=>eY x 3 ac (x.len:Nat) (x.cap:Nat) λad=>eY x 3 b (x.len:Nat) (x.cap:Nat) λae=>sD ad 3 ae ab λaf ag=>eY x 3 b (x.len:Nat) (x.cap:Nat) λah=>sD ah 3 c ag λai aj=>e x aj) (eY x 3 ((a.len:Nat):Int) (x.len:Nat) (x.cap:Nat) λak=>sD ak 3 c ab λal am=>eY x 3 b (x.len:Nat) (x.cap:Nat) λan=>Kd.c an ((c.len:Nat):Int) am λao=>e x ao))))
theorem Wg.o {a b c d e}(f:Wg.v a b c d e):Wg.c a b c d e:=Wa Tryz.func260 (x:=Wg.h) (R0 f)
def Xa.h:Hn:=.q .o1 (.q .o7 .l)
def Xa.v (a:Sl)(b:Hp)(c:Sl->Hp->Prop):Prop:=eY a 1 0 ((a.len:Nat):Int) ((a.len:Nat):Int) λd=>c d b
theorem Xa.o {a b c}(d:Xa.v a b c):Xa.c a b c:=Wa Tryz.func261 (x:=Xa.h) (R0 d)
def Wh.h:Hn:=.q .o1 (.q (.q .o3 (.k (.loop [(8,.I)] (.q .o1 (.q (.c .l .l) (.q (.k (.q .o2 (.q .o6 .aJ))) .o2)))))) .aM)
def Wh.v (a:Sl)(b:Fv)(c:Hp)(d:aN):Prop:=X9 [bN] (λe=>e 0 c) λf (g:Int) h=>If (g<((a.len:Nat):Int)) (Ix a.a a.len g 3 λi=>aQ i 0 h λj=>aQ i 1 h λk=>aY i 2 h λl=>VM Tryz.prog b [.agg #[.I j,.I k,.pointer l]] [.one .b] h λm n=>If m (d g n) (bL (g+1) λo=>f o n)) (d (-1) h)
theorem Wh.o {a b c d}(e:Wh.v a b c d):Wh.c a b c d:=Wa Tryz.func268 (x:=Wh.h) (R0 e)
def Wx.h:Hn:=.q .o1 (.q .o5 .l)
def Wx.v (a:Sl)(b:Fv)(c:Hp)(d:aO):Prop:=WQ.c a b c λe f=>d (decide (e≥0)) f
theorem Wx.o {a b c d}(e:Wx.v a b c d):Wx.c a b c d:=Wa Tryz.func270 (x:=Wx.h) (R0 e)
def Wp.h:Hn:=.q .o1 (.q .o5 .l)
def Wp.v (a:Sl)(b:Int)(c:Hp)(d:aO):Prop:=WD.c a b c λe f=>d (decide (e≥0)) f
theorem Wp.o {a b c d}(e:Wp.v a b c d):Wp.c a b c d:=Wa Tryz.func272 (x:=Wp.h) (R0 e)
def XL.h:Hn:=.q .o1 (.kg [] (.q .o3 (.c .o2 .l)) (.q .o4 (.q (.q .o1 (.k (.loop [(3,.I),(4,.I)] (.q (.q .o4 (.c .l .l)) (.q (.k .o7) .o3))))) .aL)))
def XL.v (a:Sl)(b:Hp)(c:aN):Prop:=Jn [] (λd=>Ix a.a a.len 0 1 λe=>bM e d λf=>X9 [bN,bN] (λg=>g f 1 d) λh (i:Int) (j:Int) k=>If (j<((a.len:Nat):Int)) (Ix a.a a.len j 1 λl=>bM l k λm=>bL (j+1) λn=>h (if m<i then m else i) n k) (c i k)) λo=>If (((a.len:Nat):Int)<1) (False) (o b)
theorem XL.o {a b c}(d:XL.v a b c):XL.c a b c:=Wa Tryz.func284 (x:=XL.h) (R0 d)
def WQ.h:Hn:=.q .o1 (.q (.q .o3 (.k (.loop [(8,.I)] (.q .o1 (.q (.c .l .l) (.q (.k (.q .o2 (.q .o6 .aJ))) .o2)))))) .aM)
def WQ.v (a:Sl)(b:Fv)(c:Hp)(d:aN):Prop:=X9 [bN] (λe=>e 0 c) λf (g:Int) h=>If (g<((a.len:Nat):Int)) (Ix a.a a.len g 1 λi=>bM i h λj=>VM Tryz.prog b [.I j] [.one .b] h λk l=>If k (d g l) (bL (g+1) λm=>f m l)) (d (-1) h)
theorem WQ.o {a b c d}(e:WQ.v a b c d):WQ.c a b c d:=Wa Tryz.func302 (x:=WQ.h) (R0 e)
def WD.h:Hn:=.q .o1 (.q (.q .o3 (.k (.loop [(8,.I)] (.q .o1 (.q (.c .l .l) (.q (.k (.q .o2 (.q .o6 .aJ))) .o2)))))) .aM)
def WD.v (a:Sl)(b:Int)(c:Hp)(d:aN):Prop:=X9 [bN] (λe=>e 0 c) λf (g:Int) h=>If (g<((a.len:Nat):Int)) (Ix a.a a.len g 1 λi=>bM i h λj=>If (b==j) (d g h) (bL (g+1) λk=>f k h)) (d (-1) h)
theorem WD.o {a b c d}(e:WD.v a b c d):WD.c a b c d:=Wa Tryz.func303 (x:=WD.h) (R0 e)
def QW.vu (l:Nat)(cap0:Addr)(U:Hp)(R:aP):Prop:=
 ld cap0 U λt4=>
 nM .i64 .b t4 U λit v=>
 X9 [] (λI=>I v) λJ v1=>
 nU .i64 .b it v1 (R v1)
  (λkey val v2=>
  nI .i64 .b it v2 λkey1 val1=>
  Ha Tryz.prog l [.int .i64 key1] v2 λmore v3=>
  If (!more) (R v3)
   (J v3))
def Wf.h:Hn:=.q .o1 (.q .o5 .l)
def Wf.v (a:Sl)(b:Fv)(c:Hp)(d:aO):Prop:=Wm.c a b c λe f=>d (decide (e≥0)) f
theorem Wf.o {a b c d}(e:Wf.v a b c d):Wf.c a b c d:=Wa Tryz.func308 (x:=Wf.h) (R0 e)
def Wm.h:Hn:=.q .o1 (.q (.q .o3 (.k (.loop [(8,.I)] (.q .o1 (.q (.c .l .l) (.q (.k (.q .o2 (.q .o6 .aJ))) .o2)))))) .aM)
def Wm.v (a:Sl)(b:Fv)(c:Hp)(d:aN):Prop:=X9 [bN] (λe=>e 0 c) λf (g:Int) h=>If (g<((a.len:Nat):Int)) (Ix a.a a.len g 2 λi=>aZ i 0 h λj=>aZ i 1 h λk=>VM Tryz.prog b [.agg #[.bool j,.bool k]] [.one .b] h λl m=>If l (d g m) (bL (g+1) λn=>f n m)) (d (-1) h)
theorem Wm.o {a b c d}(e:Wm.v a b c d):Wm.c a b c d:=Wa Tryz.func322 (x:=Wm.h) (R0 e)
end Go.Proofs
namespace Go.Bu
open Go Go.Vc Go.Proofs
variable {U:Hp}{p n sb:Nat}{S:Nat->Bool}{ms:List Nat}
theorem mi {k:Nat}{K:Int->Prop}(hk:k<=62)(hK:K ((2^k:Nat):Int)):Nn (k:Int) (Ar .i64 (1*2^(min (k:Int).toNat IntKind.i64.bits)) K):=by
 refine nn O ?_;rw[Ed hk];exact cP aA (D9 hk) hK
theorem sr {x k j:Nat}{K:Int->Prop}(hj:j=k)(hk:k<=62)(hx:x<=4611686018427387904)(hK:K ((x/2^k*2^k:Nat):Int)) :
 Ar .i64 (((x:Int).fdiv (2^(min (k:Int).toNat IntKind.i64.bits)))*2^(min (j:Int).toNat IntKind.i64.bits)) K:=by
 subst hj;rw[Ed hk,FU];refine cP aA ?_ hK;exact zh (xd _ _) hx
theorem BH.rN (h:BH U p n S sb ms){K:Int->Prop}(hK:K (n:Int)):gA .i64 (Addr.add ⟨p,0,none⟩ 0) U K:=fU h.LV hK
theorem BH.rB (h:BH U p n S sb ms){K:Sl->Prop}(hK:∀cap,K ⟨some ⟨sb,0,none⟩,ms.length,cap⟩):jj (Addr.add ⟨p,0,none⟩ 1) U K:=by
 obtain⟨cap,a⟩:=h.nt;rw[add_lit];exact nF a (hK cap)
theorem BH.rM (h:BH U p n S sb ms){k m:Nat}(hm:ms[k]?=some m){K:Option Nat->Prop}(hK:K (some m)):Ix (some ⟨sb,0,none⟩) ms.length (k:Int) 1 λa=>ld a U K:=by
 refine ix O (by have:=(cV.1 hm).1;omega) ?_;rw[add_lit];refine F2 ?_ hK;have:=h.MF hm;simpa using this
theorem Ac (h:BH U p n S sb ms){R:aO}(hR:R true U):X5.c (aW p) U R:=by
 refine X5.o ?_;unfold X5.v;refine bV.intro (cE rfl (aG (h.rN ?_)));have:=h.n1;rw[zJ O];exact hR
def Zc (n:Nat)(start aF:Int):Bool:=decide (0<=start)&&(decide (1<=aF)&&decide (aF<=n-start))
theorem I5 (h:BH U p n S sb ms)(start aF:Int){R:aN}(h0:Zc n start aF=true->R 0 U)(h1:Zc n start aF=false->R 1 U):YQ.c (aW p) start aF U R:=by
 refine YQ.o ?_;unfold YQ.v;have a:¬(0<=start/\1<=aF/\aF<=n-start)->R 1 U:=λg=>h1 (by simp only[Zc,←uk];exact zK g);have n1:=h.n1;have n2:=h.n2;refine Ac h (cB rfl (bV.intro ?_));refine cQ (λh1=>bV.intro (cE rfl (bV.intro (cE rfl (cE rfl (a O)))))) λh1=>?_;refine bV.intro (cQ (λe=>bV.intro (cE rfl (cE rfl (a O)))) λe=>?_);refine aG (h.rN ?_);refine bV.intro (cQ (λd=>cE rfl (a O)) λd=>?_);refine aG (h.rN (ar O O ?_));refine cQ (λb=>a O) λb=>h0 ?_;simp only[Zc,zF,zU];omega
theorem Ef (h:BH U p n S sb ms)(x:Nat)(hx:x<=4611686018427387904){R:Int->Int->Bool->Hp->Prop}
 (h1:∀k q,can S k q=true->x/2^k=q->R (k:Int) ((q*2^k:Nat):Int) true U) (h0:S x=false->R 0 0 false U):Xp.c (aW p) (x:Int) U R:=by
 refine Xp.o ?_;unfold Xp.v;refine aG (h.rB λcap=>?_);refine ZX (a:=bN) (λt u=>∃k:Nat,t=(k:Int)/\k<=ms.length/\u=U/\∀j,j<k->can S j (x/2^j)=false) (λt _=>ms.length-t.toNat) ⟨0,rfl,O,rfl,λj d=>O⟩ ?_;rintro t u ⟨k,rfl,y,rfl,b⟩;have w:=h.len;refine cQ (λr=>?_) (λg=>?_)
 ·simp only at r;obtain⟨m,s⟩:=h.get (k:=k) O;refine h.rM s (nn O (nn O (sr rfl O hx (h.lk s rfl ?_))));cases hc:can S k (x/2^k)
  ·refine cB aA (cP (m:=k+1) O O ?_);refine⟨⟨k+1,rfl,O,rfl,λj d=>?_⟩,O⟩;by_cases e:j=k
   ·rw[e];exact hc
   ·exact b j O
  ·exact cE aA (h1 k _ hc rfl)
 ·simp only at g;refine h0 ?_;cases hs:S x
  ·rfl
  ·obtain⟨j,d⟩:=Up h.jm hs;have:=h.fits (ZF h.jm (Zw.1 d).1);rw[b j O]at d;cases d
def k8 (S:Nat->Bool)(x:Int):Bool:=decide (0<=x)&&S x.toNat
theorem LU (h:BH U p n S sb ms)(x:Int){R:aO}(hR:R (k8 S x) U):Yc.c (aW p) x U R:=by
 refine Yc.o ?_;unfold Yc.v;have n2:=h.n2;refine Ac h (bV.intro (cB rfl ?_));refine bV.intro (cQ (λi=>cE rfl ?_) λi=>aG (h.rN ?_))
 ·have:k8 S x=false:=by simp[k8];intro;omega
  rw[this]at hR;exact hR
 ·refine cQ (λg=>?_) λg=>?_
  ·have:k8 S x=false:=by
    simp only[k8];cases a:S x.toNat
    ·simp
    ·have:=h.jm _ a;omega
   rw[this]at hR;exact hR
  ·obtain⟨y,rfl⟩:=zc (show 0<=x by omega);have e:k8 S (y:Int)=S y:=by simp[k8]
   rw[e]at hR;refine Ef h y O (λk q b d=>?_) λa=>?_
   ·rw[VV b d]at hR;exact hR
   ·rw[a]at hR;exact hR
theorem Lt {k q:Nat}(h:BH U p n S sb ms)(hf:q*2^k+2^k<=n)(hd:∀x,x/2^k=q->S x=false){R:aP}
 (hR:∀σ',Ext (· ∈ ms) U σ'->BH σ' p n (ins S k q) sb ms->R σ'):Y5.c (aW p) (k:Int) ((q*2^k:Nat):Int) U R:=by
 refine Y5.o ?_;unfold Y5.v;refine Uw (a:=bN) (bb:=bN)
  (λo s B=>∃(j r:Nat) (T:Nat->Bool),o=(j:Int)/\s=((r*2^j:Nat):Int)/\r*2^j+2^j<=n/\BH B p n T sb ms/\Ext (· ∈ ms) U B/\(∀x,x/2^j=r->T x=false)/\ins T j r=ins S k q)
  (λo _ _=>ms.length-o.toNat) ⟨k,q,S,rfl,rfl,hf,h,Ext.refl _ _,hd,rfl⟩ ?_
 rintro o s B ⟨j,r,T,rfl,rfl,A,d,N,z,y⟩;have Y:=d.len;have V:=d.fits A;have W:=d.n2;have Q:=kF j;obtain⟨m,C⟩:=d.get V;have w:¬full (ins T j r) (j+1) (r/2)=true->(bU (some ⟨p,0,none⟩) λH=>jj (H.add 1) B λE=>Ix E.a E.len (j:Int) 1 λM=>ld M B λJ=>kf .i64 .b J ((r*2^j:Nat):Int) true B λv3=>R v3):=by
  intro g;refine aG (d.rB λcap=>d.rM C ?_);refine d.vS C z g A rfl λD e K=>hR D (N.trans e) ?_;rw[←y];exact K
 refine cP (m:=j+1) O O (aG (d.rB λcap=>bV.intro ?_));refine cQ (λL=>?_) (λG=>?_)
 ·simp only at L;refine aG (d.rB λcap=>d.rM C (mi O ?_));have P:=D9 (show j<=62 by omega);have F:bits .xor .i64 ((r*2^j:Nat):Int) ((2^j:Nat):Int)=((ib r*2^j:Nat):Int):=by
   rw[RF O O,IH]
  rw[F];refine d.lk C rfl ?_;cases hc:can T j (ib r)
  ·refine cB aA (w (Ma z (by simp[hc])))
  ·refine cE aA ?_;refine aG (d.rB λcap=>d.rM C (mi O ?_));rw[F];refine d.rQ C hc rfl λD e K=>?_;refine cP (m:=j+1) O O (nn O (cP (m:=j+1) O O (nn O ?_)));refine sr rfl O O ?_;refine cP (m:=j+1) O O ⟨⟨j+1,r/2,del T j (ib r),rfl,?_,?_,K,N.trans e,?_,?_⟩,O⟩
   ·rw[mD,←sd,Ky]
   ·-- both halves lie within
    have u:=ZF d.jm (Zw.1 hc).1;have e2:r/2*2^(j+1)=(r/2*2)*2^j:=by rw[mD,Nat.mul_comm (2^j) 2,←vv]
    rw[e2,mD];have g:(r/2*2)+1=r\/(r/2*2)+1=ib r:=by unfold ib;split<;>omega
    have X:(r/2*2)*2^j+2^j*2=((r/2*2)+1)*2^j+2^j:=by rw[zm];omega
    rw[X];rcases g with e4|e4<;>rw[e4]<;>assumption
   ·intro x F;rcases U3.1 F with u|u
    ·simp[del,z x u]
    ·simp[del,u]
   ·rw[←y];refine GH λx=>?_;rw[Vm,Vm,Vq,U3];by_cases u:x/2^j=ib r
    ·simp[u,VV hc u]
    ·simp[u]
 ·simp only at G;refine cB rfl (w λg=>?_);have:=ZF (Dg d.jm A) g;have u:2^ms.length<=2^(j+1):=pd aB O;have:=d.hi;omega
theorem A3 {a m:Nat}(h:BH U p n S sb ms)(hf:a+m<=n)(hd:∀x,a<=x->x<a+m->S x=false){R:aP}
 (hR:∀σ',Ext (· ∈ ms) U σ'->BH σ' p n (dC S a (a+m)) sb ms->R σ'):XQ.c (aW p) (a:Int) (m:Int) U R:=by
 refine XQ.o ?_;unfold XQ.v;have M:=h.n2;refine Uw (a:=bN) (bb:=bN)
  (λs c w=>∃(a' r:Nat),s=(a':Int)/\c=(r:Int)/\a<=a'/\a'+r=a+m/\BH w p n (dC S a a') sb ms/\Ext (· ∈ ms) U w)
  (λ_ c _=>c.toNat) ⟨a,m,rfl,rfl,O,rfl,by rw[II];exact h,Ext.refl _ _⟩ ?_
 rintro s c w ⟨a',r,rfl,rfl,B,N,G,F⟩;refine cQ (λH=>?_) (λW=>?_)
 ·refine ZX (a:=bN) (λk u=>∃j q:Nat,k=(j:Int)/\a'=q*2^j/\2^j<=r/\u=w) (λk _=>12-k.toNat) ⟨0,a',rfl,by simp,by simp;omega,rfl⟩ ?_;rintro k u ⟨j,q,rfl,L,K,rfl⟩;have V:j<=10:=by
   apply Classical.byContradiction;intro hc;have:2^11<=2^j:=pd aB O;omega
  refine cP (m:=j+1) O O (nn O (cP (m:=j+1) O O (nn O ?_)));refine sr rfl O O (bV.intro ?_);have g:(Y5.c (aW p) (j:Int) (a':Int) u λv3=>
   Nn (j:Int)<|Ar .i64 (1*2^(min (j:Int).toNat IntKind.i64.bits)) λC=>Ar .i64 ((a':Int)+C) λd=>
   Nn (j:Int)<|Ar .i64 (1*2^(min (j:Int).toNat IntKind.i64.bits)) λA=>Ar .i64 ((r:Int)-A) λb=>
   (∃(a'' m'':Nat),d=(a'':Int)/\b=(m'':Int)/\a<=a''/\a''+m''=a+m/\BH v3 p n (dC S a a'') sb ms/\Ext (· ∈ ms) U v3)/\b.toNat<(r:Int).toNat):=by
   subst L;refine Lt G O (λx P=>?_) λv3 e y=>?_
   ·have:=Z3.1 P;have J:=hd x O O;simp only[dC,J,xF];rw[zK (show ¬x<q*2^j by omega),tv]
   ·have D:=kF j;refine mi O (cP (m:=q*2^j+2^j) O O (mi O (cP (m:=r-2^j) O O ?_)));refine⟨⟨_,_,rfl,rfl,O,O,?_,F.trans e⟩,O⟩;rw[Im,PO B O]at y;exact y
  refine cO (λE=>?_) (λE=>cB rfl g);have z:a'/2^(j+1)*2^(j+1)=a':=by
   have:=zT.1 E
   exact_mod_cast this
  refine cP (m:=j+1) O O (mi O ?_);refine cQ (λQ=>?_) λ_=>g;refine cP (m:=j+1) O O ⟨⟨j+1,a'/2^(j+1),rfl,z.symm,O,rfl⟩,O⟩
 ·have:r=0:=by omega
  subst this;have:a'=a+m:=by omega
  subst this;exact hR w F G
theorem Md {a m:Nat}(h:BH U p n S sb ms)(hf:a+m<=n)(hd:∀x,a<=x->x<a+m->S x=true){R:aP}
 (hR:∀σ',Ext (· ∈ ms) U σ'->BH σ' p n (take S a (a+m)) sb ms->R σ'):Zh.c (aW p) (a:Int) (m:Int) U R:=by
 refine Zh.o ?_;unfold Zh.v;have Q:=h.n2;refine ZX (a:=bN) (λs w=>∃x:Nat,s=(x:Int)/\a<=x/\BH w p n (take S a (min x (a+m))) sb ms/\Ext (· ∈ ms) U w)
  (λs _=>a+m-s.toNat) ⟨a,rfl,O,by rw[po O,SD];exact h,Ext.refl _ _⟩ ?_
 rintro s w ⟨x,rfl,D,b,J⟩;refine cP (m:=a+m) O O ?_;refine cQ (λW=>?_) (λL=>?_)
 ·rw[po O]at b;have X:take S a x x=true:=Kt.2 ⟨hd x D O,O⟩;refine Ef b x O (λk q z P=>?_) (λj=>by rw[X]at j;cases j);have F:=ZF b.jm (Zw.1 z).1;have V:=b.fits F;have hl:=b.len;obtain⟨mm,K⟩:=b.get V;have N:=Z3.1 P;refine aG (b.rB λcap=>b.rM K ?_);refine b.rQ K z rfl λh1 e1 C=>?_;refine mi O (cP (m:=q*2^k+2^k) O O (cP (m:=x-q*2^k) O O ?_));refine A3 C O (λy G B=>?_) λh2 e2 e=>?_
  ·have:y/2^k=q:=Z3.2 O;simp[del,this]
  ·have r:=(J.trans e1).trans e2;rw[show q*2^k+(x-q*2^k)=x by omega]at e;have g:∀y,q*2^k<=y/\y<q*2^k+2^k->S y=true/\¬(a<=y/\y<x):=λy d=>Kt.1 (VV z (Z3.2 d));refine cP (m:=a+m) O O (cQ (λM=>?_) λY=>?_)
   ·refine cP (m:=q*2^k+2^k-(a+m)) O O ?_;refine A3 e O (λy G B=>?_) λh3 Z u=>?_
    ·have:y/2^k=q:=Z3.2 O;have H:¬y<x:=by omega
     simp[dC,del,this,H]
    ·refine⟨⟨_,rfl,O,?_,r.trans Z⟩,O⟩;rw[Nat.min_eq_right O];have:dC (dC (del (take S a x) k q) (q*2^k) x) (a+m) (a+m+(q*2^k+2^k-(a+m)))=take S a (a+m):=by
      refine GH λy=>?_;have d:=g y;simp only[Q9,Vq,Kt,Ne,Z3];generalize q*2^k=A at *;generalize 2^k=E at *;cases j:S y
      ·rw[j]at d;simp only[zd,false_and,false_or,iff_false,imp_false]at d ⊢;omega
      ·rw[j]at d;simp only[si]at d ⊢;omega
     rw[this]at u;exact u
   ·refine⟨⟨_,rfl,O,?_,r⟩,O⟩;rw[po O];have:dC (del (take S a x) k q) (q*2^k) x=take S a (q*2^k+2^k):=by
     refine GH λy=>?_;have d:=g y;simp only[Q9,Vq,Kt,Ne,Z3];generalize q*2^k=A at *;generalize 2^k=E at *;cases j:S y
     ·rw[j]at d;simp only[zd,false_and,false_or,iff_false,imp_false]at d ⊢;omega
     ·rw[j]at d;simp only[si]at d ⊢;omega
    rw[this]at e;exact e
 ·rw[Nat.min_eq_right O]at b;exact hR w J b
def pN (S:Nat->Bool)(a m:Nat):Bool:=(List.range m).all λi=>!S (a+i)
theorem KV {S:Nat->Bool}{a m:Nat}:pN S a m=true↔∀x,a<=x->x<a+m->S x=false:=by
 simp only[pN,j6,zg,mh];exact⟨λh x b d=>by have:=h (x-a) O;rwa [show a+(x-a)=x by omega]at this,λh i e=>h _ O O⟩
theorem Re {S:Nat->Bool}{a m x:Nat}(h1:a<=x)(h2:x<a+m)(h:S x=true):pN S a m=false:=by
 cases e:pN S a m
 ·rfl
 ·rw[KV.1 e x h1 h2]at h;cases h
def yf (n:Nat)(S:Nat->Bool)(a m:Int):Int:=if Zc n a m then(if pN S a.toNat m.toNat then 0 else 9)else 1
def Qx (n:Nat)(S:Nat->Bool)(a m:Int):Nat->Bool:=if Zc n a m&&pN S a.toNat m.toNat then dC S a.toNat (a.toNat+m.toNat)else S
theorem Lx {n:Nat}{a m:Int}(h:Zc n a m=true):∃x y:Nat,a=(x:Int)/\m=(y:Int)/\1<=y/\x+y<=n:=by
 simp only[Zc,zF,zU]at h;exact⟨a.toNat,m.toNat,O,O,O,O⟩
theorem qk (h:BH U p n S sb ms)(a m:Int){R:aN}
 (hR:∀σ',Ext (· ∈ ms) U σ'->BH σ' p n (Qx n S a m) sb ms->R (yf n S a m) σ'):X6.c (aW p) a m U R:=by
 refine X6.o ?_;unfold X6.v;have B:=h.n2;refine I5 h a m (λd=>cB rfl ?_) (λd=>cE rfl ?_)
 ·obtain⟨x,y,rfl,rfl,G,s⟩:=Lx d;refine ZX (a:=bN) (λt w=>∃z:Nat,t=(z:Int)/\x<=z/\w=U/\∀u,x<=u->u<z->S u=false) (λt _=>x+y-t.toNat) ⟨x,rfl,O,rfl,λu _ _=>O⟩ ?_;rintro t w ⟨z,rfl,A,rfl,g⟩;refine cP (m:=x+y) O O ?_;refine cQ (λF=>LU h _ ?_) (λC=>?_)
  ·have e:k8 S (z:Int)=S z:=by simp[k8]
   rw[e];cases hs:S z
   ·refine cB rfl (cP (m:=z+1) O O ⟨⟨z+1,rfl,O,rfl,λu r E=>?_⟩,O⟩);by_cases e:u=z
    ·rw[e];exact hs
    ·exact g u r O
   ·refine cE rfl ?_;have j:=Re (m:=y) A O hs;have:=hR w (Ext.refl _ _);simp only[yf,Qx,d,dE,j,tv,zR,zd,zz]at this;exact this h
  ·have b:∀u,x<=u->u<x+y->S u=false:=λu r E=>g u r O;have j:=KV.2 b;refine A3 h s b λr e1 D=>?_;have:=hR r e1;simp only[yf,Qx,d,dE,j,uy,zR]at this;exact this D
 ·have:=hR U (Ext.refl _ _);simp only[yf,Qx,d,tY,zd,zz]at this;exact this h
end Go.Bu
namespace Go.Ar
open Go.Bu
def uo (n:Nat)(h:Int):Bool:=decide (0<=h)&&decide (h<((n/16:Nat):Int))
def kA (st:List Nat)(h:Int):Int:=if uo st.length h then(if st.getD (16*h.toNat) 0=0 then 0 else 5)else 1
def iW (st:List Nat)(h:Int):List Nat:=if kA st h=0 then gC st (16*h.toNat) (16*h.toNat+16) 3 else st
def tQ (st:List Nat)(a m:Nat)(fr:List Nat):Bool:=((st.drop a).take m).all fr.contains
def GG (st:List Nat)(a m:Int)(fr:List Nat):Int:=if Zc st.length a m then(if tQ st a.toNat m.toNat fr then 0 else 5)else 1
def V7 (st:List Nat)(a m:Int)(v:Nat)(fr:List Nat):List Nat:=if GG st a m fr=0 then gC st a.toNat (a.toNat+m.toNat) v else st
def JL (st:List Nat)(h:Nat):Nat:=if sx st (16*h) (16*h+16) 1=0 then 0 else if 0<sx st (16*h) (16*h+16) 3 then 1 else 2
def SN (st:List Nat)(k:Nat):List Nat:=(List.range (st.length/16)).filter λh=>st.getD (16*h) 0 != 0&&JL st h==k
def used (st:List Nat)(h:Nat):Nat:=sx st (16*h) (16*h+16) 1
structure Sp where
 st:List Nat
 wd:Nat->Int
 pk:Nat
def Sp.set (s:Sp)(a m v:Nat):Sp:={s with st:=gC s.st a (a+m) v,wd:=λw=>if a*32<=w/\w<(a+m)*32 then 0 else s.wd w}
def fA (s:Sp)(a m:Int):Int:=if Zc s.st.length a m then(if((s.st.drop a.toNat).take m.toNat).any (· != 0)then 5 else 0)else 1
def fT (s:Sp)(a m:Int):Sp:=if fA s a m=0 then s.set a.toNat m.toNat 1 else s
def eR (s:Sp)(x:Int):Int:=if x<0\/x%8≠0 then 7 else if s.st.getD (x.toNat/256) 0=0 then 7 else 0
def nb (s:Sp)(w:Nat)(v:Int):Sp:=
 {st:=s.st.set (w/32) 2,wd:=λu=>if u=w then v else s.wd u,pk:=if s.st.getD (w/32) 0=2 then s.pk else max s.pk ((s.st.set (w/32) 2).count 2)}
def ZV (s:Sp)(x v:Int):Sp:=if eR s x=0 then nb s (x.toNat/8) v else s
end Go.Ar
namespace Go.Ar
structure Li where
 os:List Int
 lim:Nat
 low:Nat
 deriving DecidableEq
def ij:Li:=⟨[],1,0⟩
structure fL (l:Li):Prop where
 low:l.low<=l.os.length
 many:l.os.length<=256
 lim:l.lim<=128
 nj:1<=l.lim
def gp (m:Nat)(l:Li):List Int×Li:=(l.os.take m,{l with os:=l.os.drop m,low:=min l.low (l.os.length-m)})
def mo (c:bZ)(l:Li):Li:=if l.lim<c.batch then{l with lim:=l.lim+1}else l
def QY (c:bZ)(l:Li):Option Int×Li:=match l.os.getLast? with
 | none=>(none,if l.lim<c.batch then{l with lim:=l.lim+1}else{l with lim:=min (l.lim+c.batch) 128})
 | some x=>(some x,{l with os:=l.os.dropLast,low:=min l.low (l.os.length-1)})
def GU (c:bZ)(l:Li):Nat:=min l.lim c.batch
def eA (xs:List Int)(l:Li):Li:=if l.os.length+xs.length>256 then l else{l with os:=l.os++xs}
def dK (c:bZ)(x:Int)(l:Li):List Int×Li:=
 if l.os.length+1>256 then([],l)
 else if l.os.length+1<=l.lim then([],eA [x] l)
 else gp (min c.batch (l.os.length+1)) (mo c (eA [x] l))
def KE (c:bZ)(l:Li):List Int×Li:=
 ((gp ((l.low+1)/2) l).1,{os:=(gp ((l.low+1)/2) l).2.os,lim:=if l.lim>c.batch then max (l.lim-c.batch) c.batch else l.lim,low:=(gp ((l.low+1)/2) l).2.os.length})
def ZG (_:bZ)(l:Li):List Int×Li:=gp l.os.length l
abbrev Bt:=Nat×List Int
def Q0 (f:bZ->Li->List Int×Li)(tb:List bZ)(ls:List Li):List Bt:=(List.range tb.length).filterMap λk=>match tb[k]?,ls[k]? with
 | some c,some l=>if(f c l).1=[]then none else some (k,(f c l).1)
 | _,_=>none
def QT (f:bZ->Li->List Int×Li)(tb:List bZ)(ls:List Li):List Li:=List.zipWith (λc l=>(f c l).2) tb ls
def QQ (tb:List bZ)(ls:List Li):Nat:=((tb.zip ls).map λx=>x.1.size*x.2.os.length).sum
theorem fL.nil:fL ij:=⟨zD _,by decide,by decide,by decide⟩
theorem xZ {m:Nat}{l:Li}(h:fL l):fL (gp m l).2:=by
 have b:=h.low;have a:=h.many;refine⟨?_,?_,h.lim,h.nj⟩
 ·simp only[gp,jZ];omega
 ·simp only[gp,jZ];omega
theorem Ce {c:bZ}{l:Li}(hc:c.ok)(h:fL l):fL (QY c l).2:=by
 have b:=h.low;have a:=h.many;have e:=h.lim;have d:=h.nj;unfold bZ.ok at hc;unfold QY;split
 ·split
  ·exact⟨b,a,by simp only;omega,by simp only;omega⟩
  ·exact⟨b,a,by simp only;omega,by simp only;omega⟩
 ·exact⟨by simp only[yN];omega,by simp only[yN];omega,e,d⟩
theorem xy {xs:List Int}{l:Li}(h:fL l):fL (eA xs l):=by
 have b:=h.low;have a:=h.many;unfold eA;split
 ·exact h
 ·exact⟨by simp only[zO];omega,by simp only[zO];omega,h.lim,h.nj⟩
theorem DX {c:bZ}{l:Li}(hc:c.ok)(h:fL l):fL (mo c l):=by
 have a:=h.lim;unfold bZ.ok at hc;unfold mo;split
 ·exact⟨h.low,h.many,by simp only;omega,by simp only;omega⟩
 ·exact h
theorem I8 {c:bZ}{x:Int}{l:Li}(hc:c.ok)(h:fL l):fL (dK c x l).2:=by
 unfold dK;split
 ·exact h
 ·split
  ·exact xy h
  ·exact xZ (DX hc (xy h))
theorem CJ {c:bZ}{l:Li}(hc:c.ok)(h:fL l):fL (KE c l).2:=by
 have a:=(xZ (m:=(l.low+1)/2) h).many;have b:=h.lim;have d:=h.nj;unfold bZ.ok at hc;refine⟨zD _,a,?_,?_⟩<;>simp only[KE]<;>split<;>omega
theorem Pz {c:bZ}{l:Li}(h:fL l):fL (ZG c l).2:=xZ h
theorem Lm (c:bZ)(hc:c.ok):KE c ij=([],ij):=by
 unfold bZ.ok at hc;simp[KE,ij,gp];omega
theorem Sw (c:bZ):ZG c ij=([],ij):=by simp[ZG,ij,gp]
def gD.rem (t:gD):gD:={low:=min t.low (t.bs.length-1),bs:=t.bs.dropLast}
def gD.tick (t:gD):gD:={low:=(t.bs.drop ((t.low+1)/2)).length,bs:=t.bs.drop ((t.low+1)/2)}
def gD.out (t:gD):List (List Int):=t.bs.take ((t.low+1)/2)
end Go.Ar
namespace Go.Proofs
open Go.Vc
set_option maxRecDepth 100000
def Xt.h:Hn:=.q .o1 (.q (.cR (.seq [.op,.op,.op,.cX true 4 (RI.ops 4),.op])) .l)
def Xt.v (a:R2)(b:Hp)(c:aO):Prop:=bV (λd e=>c d e) λf=>If (!a.isNone) (bG a 0 b λh=>f h b) (f false b)
theorem Xt.o {a b c}(d:Xt.v a b c):Xt.c a b c:=Wa Tryz.func192 (x:=Xt.h) (R0 d)
def Z5.h:Hn:=.q .o1 (.q .o3 .l)
def Z5.v (a:Hp)(b:Option Addr->Hp->Prop):Prop:=aV #[.bool true,.pointer none,.pointer none,.pointer none,.pointer none,.pointer none,.pointer none,.pointer none,.pointer none,.pointer none,.pointer none,.pointer none,.pointer none,.pointer none,.pointer none,.pointer none,.pointer none] 330 a λc d=>b (some c) d
theorem Z5.o {a b}(c:Z5.v a b):Z5.c a b:=Wa Tryz.func193 (x:=Z5.h) (R0 c)
def Yy.h:Hn:=.q .o1 (.q (.k (.q .o4 (.c .aM (.q (.cR (.seq [.op,.op,.op,.cX false 2 [.op,.op],.op,.cX false 2 [.op,.op],.op,.cX false 4 (RI.ops 4),.op])) .aK)))) (.q (.q .o2 (.k (.loop [(9,.I)] (.q (.q .o5 (.c .l .l)) (.q (.k .o4) .o3))))) .aM))
def Yy.v (a:R2)(b c d:Int)(e:Hp)(f:aN):Prop:=Xt.c a e λg h=>If (!g) (f 5 h) (bV (λi j=>bV (λk l=>bV (λm n=>If m (f 1 n) (X9 [bN] (λo=>o b n) λp (q:Int) r=>bL (b+c) λs=>If (q<s) (YU.c a q d r λt=>bL (q+1) λu=>p u t) (f 0 r))) λv=>If k (v true l) (bL (1024-b) λw=>v (decide (c>w)) l)) λx=>If i (x true j) (x (decide (b>1024)) j)) λy=>If (b<0) (y true h) (y (decide (c<1)) h))
theorem Yy.o {a b c d e f}(g:Yy.v a b c d e f):Yy.c a b c d e f:=Wa Tryz.func195 (x:=Yy.h) (R0 g)
def Xx.h:Hn:=.q .o1 (.q .o5 .l)
def Xx.v (a:R2)(b c:Int)(d:Hp)(e:aN):Prop:=Yy.c a b c 0 d λf g=>e f g
theorem Xx.o {a b c d e}(f:Xx.v a b c d e):Xx.c a b c d e:=Wa Tryz.func219 (x:=Xx.h) (R0 f)
def YZ.h:Hn:=.q .o1 (.q (.q (.cR (.seq [.op,.op,.op,.op,.cX false 2 [.op,.op],.op,.cX false 2 [.op,.op]])) .aK) (.q .o9 (.q (.q (.cR (.seq [.op,.op,.op,.cX false 8 (RI.ops 8)])) .aK) (.q (.o 13) .l))))
def YZ.v (a:R2)(b:Int)(c:Hp)(d:aN):Prop:=Xt.c a c λe f=>bV (λg h=>bV (λi j=>If i (d 0 j) (Nz 8<|bL (b.tdiv 8) λk=>Nz 8<|bL (k.tdiv 8) λl=>bU a λm=>nT (m.add 1) 16 l 1 λn=>fW n j λo=>bV (λp q=>If p (d 0 q) (Nz 8<|bL (b.tdiv 8) λr=>Nz 8 <| bU o λs=>nT s 8 (r.tmod 8) 1 λt=>fW t q λu=>Nz 8 <| bU u λv=>nT v 8 (b.tmod 8) 1 λw=>bM w q λx=>d x q)) λy=>If o.isNone (y true j) (Nz 8<|bL (b.tdiv 8) λz=>Nz 8 <| bU o λaa=>nT aa 8 (z.tmod 8) 1 λab=>fW ab j λac=>y ac.isNone j))) λad=>If g (ad true h) (ad (decide (b≥1024)) h)) λae=>If (!e) (ae true f) (ae (decide (b<0)) f)
theorem YZ.o {a b c d}(e:YZ.v a b c d):YZ.c a b c d:=Wa Tryz.func245 (x:=YZ.h) (R0 e)
def YU.h:Hn:=.q .o9 (.q .o8 (.q .o7 (.kg [] (.q .o5 (.c .o7 .l)) (.q .o5 (.c .o8 .l)))))
def YU.v (a:R2)(b c:Int)(d:Hp)(e:aP):Prop:=Nz 8<|bL (b.tdiv 8) λf=>Nz 8<|bL (f.tdiv 8) λg=>bU a λh=>nT (h.add 1) 16 g 1 λi=>Ww.c (some i) d λj k=>Nz 8<|bL (b.tdiv 8) λl=>Nz 8 <| bU j λm=>nT m 8 (l.tmod 8) 1 λn=>Wy.c (some n) k λo p=>Nz 8 <| bU o λq=>nT q 8 (b.tmod 8) 1 λr=>dS r (.I c) p λs=>Jn [] (λt=>bU j λu=>aY u 0 t λv=>aY u 1 t λw=>aY u 2 t λx=>aY u 3 t λy=>aY u 4 t λz=>aY u 5 t λaa=>aY u 6 t λab=>aY u 7 t λac=>If (v.isNone&&(w.isNone&&(x.isNone&&(y.isNone&&(z.isNone&&(aa.isNone&&(ab.isNone&&(ac.isNone&&true)))))))) (Nz 8<|bL (b.tdiv 8) λad=>Nz 8<|bL (ad.tdiv 8) λae=>bU a λaf=>nT (af.add 1) 16 ae 1 λag=>dS ag (.pointer none) t λah=>e ah) (e t)) λai=>bU o λaj=>aQ aj 0 s λak=>aQ aj 1 s λal=>aQ aj 2 s λam=>aQ aj 3 s λan=>aQ aj 4 s λao=>aQ aj 5 s λap=>aQ aj 6 s λaq=>aQ aj 7 s λar=>If ((ak==0)&&((al==0)&&((am==0)&&((an==0)&&((ao==0)&&((ap==0)&&((aq==0)&&((ar==0)&&true)))))))) (Nz 8<|bL (b.tdiv 8) λau=>Nz 8 <| bU j λav=>nT av 8 (au.tmod 8) 1 λaw=>dS aw (.pointer none) s λax=>ai ax) (ai s)
theorem YU.o {a b c d e}(f:YU.v a b c d e):YU.c a b c d e:=Wa Tryz.func246 (x:=YU.h) (R0 f)
def XS.h:Hn:=.q .o1 (.q (.q (.cR (.seq [.op,.op,.op,.cX true 6 [.op,.op,.op,.cX false 2 [.op,.op]]])) .aK) (.q .o6 .l))
def XS.v (a:R2)(b c d:Int)(e:Hp)(f:aN):Prop:=Xt.c a e λg h=>bV (λi j=>If i (f 1 j) (Yy.c a b c d j λk l=>f k l)) λm=>If g (bV (λn o=>m n o) λp=>If (d<1) (p true h) (p (decide (d>1073741824)) h)) (m false h)
theorem XS.o {a b c d e f}(g:XS.v a b c d e f):XS.c a b c d e f:=Wa Tryz.func256 (x:=XS.h) (R0 g)
def Ww.h:Hn:=.q .o1 (.kg [] (.q .o4 (.c .o4 .l)) (.q .o4 .l))
def Ww.v (a:R2)(b:Hp)(c:Option Addr->Hp->Prop):Prop:=Jn [] (λd=>bU a λe=>fW e d λf=>c f d) λg=>bU a λh=>fW h b λi=>If i.isNone (aV #[.pointer none,.pointer none,.pointer none,.pointer none,.pointer none,.pointer none,.pointer none,.pointer none] 359 b λj k=>bU a λl=>dS l (.pointer (some j)) k λm=>g m) (g b)
theorem Ww.o {a b c}(d:Ww.v a b c):Ww.c a b c:=Wa Tryz.func279 (x:=Ww.h) (R0 d)
def Wy.h:Hn:=.q .o1 (.kg [] (.q .o4 (.c .o4 .l)) (.q .o4 .l))
def Wy.v (a:R2)(b:Hp)(c:Option Addr->Hp->Prop):Prop:=Jn [] (λd=>bU a λe=>fW e d λf=>c f d) λg=>bU a λh=>fW h b λi=>If i.isNone (aV #[.I 0,.I 0,.I 0,.I 0,.I 0,.I 0,.I 0,.I 0] 363 b λj k=>bU a λl=>dS l (.pointer (some j)) k λm=>g m) (g b)
theorem Wy.o {a b c}(d:Wy.v a b c):Wy.c a b c:=Wa Tryz.func280 (x:=Wy.h) (R0 d)
end Go.Proofs
namespace Go.Ar
open Go Go.Vc Go.Proofs
open Go.Bu (Zc)
variable {U:Hp}{F:Rg}{p:Nat}{M Lf:Nat->Option Nat}{ow:Nat->Nat}
def fC {α:Type}(f:Nat->α)(k:Nat)(v:α):Nat->α:=λi=>if i=k then v else f i
theorem Zt {α:Type}(f:Nat->α)(k:Nat)(v:α):fC f k v k=v:=by simp[fC]
theorem Qb {α:Type}(f:Nat->α){k i:Nat}(v:α)(h:i≠k):fC f k v i=f i:=by simp[fC,h]
theorem Q4 {α:Type}(f:Nat->α)(n k:Nat)(v:α):((List.range n).map f).set k v=(List.range n).map (fC f k v):=by
 apply zo;intro i;by_cases hik:i=k
 ·subst hik;rcases kc i n with h|h
  ·rw[zM (by simpa using h)];simp[nu h,fC]
  ·rw[zV (by simpa using h),zV (by simpa using h)]
 ·rw[zk (Ne.symm hik)];simp only[za];rcases kc i n with h|h
  ·simp[nu h,fC,hik]
  ·simp[zV (show(List.range n).length<=i by simpa using h)]
theorem Q7 {α:Type}(f:Nat->α){n k:Nat}(h:k<n):((List.range n).map f)[k]?=some (f k):=by simp[nu h]
def ptr (o:Option Nat):Value:=.pointer (o.map λq=>⟨q,0,none⟩)
structure jK (U:Hp) (F:Rg) (p:Nat) (M Lf:Nat->Option Nat) (ow:Nat->Nat):Prop where
 hd:bY U p (.bool true::(List.range 16).map λi=>ptr (M i))
 jc:∀i q,i<16->M i=some q->bY U q ((List.range 8).map λj=>ptr (Lf (8*i+j)))
 kM:∀i,i<16->M i=none->∀j,j<8->Lf (8*i+j)=none
 leaf:∀k q,k<128->Lf k=some q->bY U q ((List.range 8).map λj=>.int .i64 ((ow (8*k+j):Nat):Int))
 iF:∀k,k<128->Lf k=none->∀j,j<8->ow (8*k+j)=0
 fp:F p
 fm:∀i q,i<16->M i=some q->F q/\q≠p
 fl:∀k q,k<128->Lf k=some q->F q/\q≠p
 mm:∀i j q,i<16->j<16->M i=some q->M j=some q->i=j
 ll:∀i j q,i<128->j<128->Lf i=some q->Lf j=some q->i=j
 ml:∀i k q,i<16->k<128->M i=some q->Lf k≠some q
def ja (U:Hp)(F:Rg)(p:Nat)(ow:Nat->Nat):Prop:=∃M Lf,jK U F p M Lf ow
theorem jK.move {σ':Hp}{G:Rg}(h:jK U F p M Lf ow)(hb:∀b,b<U.size->F b->σ'[b]?=U[b]?)(hg:∀b,b<U.size->F b->G b):jK σ' G p M Lf ow:=by
 have j:∀{b:Nat} {cs:List Value},bY U b cs->F b->bY σ' b cs:=by
  rintro b cs ⟨e,m⟩ r;exact⟨e,(hb b (bY.lt ⟨e,m⟩) r).trans m⟩
 exact⟨j h.hd h.fp,λi q d a=>j (h.jc i q d a) (h.fm i q d a).1,h.kM,λk q g a=>j (h.leaf k q g a) (h.fl k q g a).1,h.iF,hg p h.hd.lt h.fp,
  λi q d a=>⟨hg q (h.jc i q d a).lt (h.fm i q d a).1,(h.fm i q d a).2⟩,λk q g a=>⟨hg q (h.leaf k q g a).lt (h.fl k q g a).1,(h.fl k q g a).2⟩,h.mm,h.ll,h.ml⟩
theorem ja.loc:dM λU F=>ja U F p ow:=λU i F G ⟨M,Lf,h⟩ g e=>⟨M,Lf,h.move (λb d a=>(e b d a).2) λb d a=>(e b d a).1⟩
theorem ja.congr {ow':Nat->Nat}(h:ja U F p ow)(he:∀x,x<1024->ow x=ow' x):ja U F p ow':=by
 obtain⟨M,Lf,h⟩:=h;refine⟨M,Lf,h.hd,h.jc,h.kM,λk q b a=>?_,λk b a j d=>?_,h.fp,h.fm,h.fl,h.mm,h.ll,h.ml⟩
 ·have:=h.leaf k q b a;have e:((List.range 8).map λj=>Value.int .i64 ((ow (8*k+j):Nat):Int))=(List.range 8).map λj=>Value.int .i64 ((ow' (8*k+j):Nat):Int):=by
   apply j2;intro j d;rw[zg]at d;rw[he _ O]
  rw[←e];exact this
 ·rw[←he _ O];exact h.iF k b a j d
theorem Aw (h:ja U F p ow){R:aO}(hR:R true U):Xt.c (aW p) U R:=by
 refine Xt.o ?_;unfold Xt.v;obtain⟨M,Lf,h⟩:=h;exact bV.intro (cE rfl (aG (h.hd.rB rfl hR)))
theorem qL {a:Addr}{n i sz:Nat}{K:Addr->Prop}(hi:i<n)(hK:K (a.add (i*sz))):nT a n (i:Int) sz K:=⟨O,O,by simpa using hK⟩
theorem jK.rM (h:jK U F p M Lf ow){i:Nat}(hi:i<16){K:Option Addr->Prop}(hK:K ((M i).map λq=>⟨q,0,none⟩)):fW ⟨p,1+i,none⟩ U K:=by
 refine h.hd.rU ?_ hK;rw[Nat.add_comm,Bi,Q7 _ hi];rfl
theorem jK.rL (h:jK U F p M Lf ow){i j q:Nat}(hi:i<16)(hq:M i=some q)(hj:j<8){K:Option Addr->Prop}(hK:K ((Lf (8*i+j)).map λq=>⟨q,0,none⟩)):fW ⟨q,j,none⟩ U K:=
 (h.jc i q hi hq).rU (Q7 _ hj) hK
theorem jK.rN (h:jK U F p M Lf ow){k j q:Nat}(hk:k<128)(hq:Lf k=some q)(hj:j<8){K:Int->Prop}(hK:K ((ow (8*k+j):Nat):Int)):gA .i64 ⟨q,j,none⟩ U K:=
 (h.leaf k q hk hq).uv (Q7 _ hj) hK
def qy (ow:Nat->Nat)(x:Int):Nat:=if 0<=x/\x<1024 then ow x.toNat else 0
theorem Rj (h:ja U F p ow)(x:Int){R:aN}(hR:R ((qy ow x:Nat):Int) U):YZ.c (aW p) x U R:=by
 refine YZ.o ?_;unfold YZ.v;have s:=h;obtain⟨M,Lf,h⟩:=h;refine Aw s (bV.intro (cB rfl (bV.intro (cQ (λm=>cE rfl ?_) λm=>?_))))
 ·have:qy ow x=0:=by unfold qy;rw[zB O]
  rw[this]at hR;exact hR
 refine cQ (λu=>?_) λz=>?_
 ·have:qy ow x=0:=by unfold qy;rw[zB O]
  rw[this]at hR;exact hR
 obtain⟨y,rfl⟩:=zc (show 0<=x by omega);have A:y<1024:=by omega
 have i:qy ow (y:Int)=ow y:=by unfold qy;rw[zC O];rfl
 rw[i]at hR;have d:((y:Int).tdiv 8)=((y/8:Nat):Int):=by rw[XO O];simp
 have j:(((y/8:Nat):Int).tdiv 8)=((y/8/8:Nat):Int):=by rw[XO O];simp
 have e:(((y/8:Nat):Int).tmod 8)=((y/8%8:Nat):Int):=by rw[Qp O];simp
 have w:((y:Int).tmod 8)=((y%8:Nat):Int):=by rw[Qp O];simp
 have b:8*(y/8/8)+y/8%8=y/8:=by omega
 have a:8*(y/8)+y%8=y:=by omega
 refine nz aB (cP d O (nz aB (cP j O (aG ?_))));refine qL O ?_;rw[add_lit,add_lit,zH,m8];refine h.rM O (bV.intro ?_);cases hM:M (y/8/8)with
 | none=>
  refine cE rfl (cE rfl ?_);have g:=h.kM _ O hM (y/8%8) O;rw[b]at g;have:=h.iF _ O g (y%8) O;rw[a]at this;rw[this]at hR;exact hR
 | some q=>
  refine cB rfl (nz aB (cP d O (nz aB (aG ?_))));rw[e];refine qL O ?_;rw[add_lit,zH,m8];refine h.rL O hM O ?_;rw[b];cases hL:Lf (y/8)with
  | none=>
   refine cE rfl ?_;have:=h.iF _ O hL (y%8) O;rw[a]at this;rw[this]at hR;exact hR
  | some r=>
   refine cB rfl (nz aB (cP d O (nz aB (aG ?_))));rw[e];refine qL O ?_;rw[add_lit,zH,m8];refine h.rL O hM O ?_;rw[b,hL];refine nz aB (aG ?_);rw[w];refine qL O ?_;rw[add_lit,zH,m8];refine h.rN O hL O ?_;rw[a];exact hR
theorem Jf {R:Option Addr->Hp->Prop}(hR:∀σ' p,bK U σ'->U.size<=p->ja σ' (λb=>U.size<=b) p (λ_=>0)->R (some ⟨p,0,none⟩) σ'):Z5.c U R:=by
 refine Z5.o ?_;unfold Z5.v;refine nw (cs:=[.bool true,.pointer none,.pointer none,.pointer none,.pointer none,.pointer none,.pointer none,.pointer none,.pointer none,.pointer none,.pointer none,.pointer none,.pointer none,.pointer none,.pointer none,.pointer none,.pointer none]) λv d e a=>?_;refine hR v _ e (zD _) ⟨λ_=>none,λ_=>none,a,?_,?_,?_,?_,zD _,?_,?_,?_,?_,?_⟩<;>intros<;>simp_all
theorem Ji (h:jK U F p M Lf ow){i:Nat}(hi:i<16){R:Option Addr->Hp->Prop}
 (hR:∀σ' M' q,Ext F U σ'->M' i=some q->jK σ' (Grow F U) p M' Lf ow->R (some ⟨q,0,none⟩) σ'):Ww.c (some ⟨p,1+i,none⟩) U R:=by
 refine Ww.o ?_;unfold Ww.v;refine Jn.intro (aG (h.rM hi ?_));cases hM:M i with
 | some q=>exact cB rfl (aG (h.rM hi (by rw[hM];exact hR U M q (Ext.refl _ _) hM (h.move (λ_ _ _=>rfl) λ_ _ B=>.inl B))))
 | none=>
  refine cE rfl (nw (cs:=[.pointer none,.pointer none,.pointer none,.pointer none,.pointer none,.pointer none,.pointer none,.pointer none]) λC D e1 x=>aG ?_);have E:=h.hd.lt;refine(e1.bT h.hd id).s0 aE λz o2 s=>?_;have u:(Value.bool true::(List.range 16).map λi=>ptr (M i)).set (1+i) (.pointer (some ⟨U.size,0,none⟩))=.bool true::(List.range 16).map λj=>ptr (fC M i (some U.size) j):=by
   rw[Nat.add_comm,rX,Q4]
   congr 1
   apply j2;intro j _;simp only[fC];split<;>rfl
  rw[u]at s;have r:∀{b:Nat} {cs:List Value},bY U b cs->b≠p->bY z b cs:=λw y=>Ws o2 (e1.bT w id) y;have A:jK z (Grow F U) p (fC M i (some U.size)) Lf ow:=by
   refine⟨s,λj q e a=>?_,λj e a=>?_,λk q d a=>r (h.leaf k q d a) (h.fl k q d a).2,h.iF,.inl h.fp,λj q e a=>?_,λk q d a=>⟨.inl (h.fl k q d a).1,(h.fl k q d a).2⟩,λj k q e d m g=>?_,h.ll,λj k q e d a=>?_⟩
   ·by_cases hji:j=i
    ·subst hji;rw[Zt]at a;cases a;have y:=h.kM j e hM;have:((List.range 8).map λk=>ptr (Lf (8*j+k)))=[.pointer none,.pointer none,.pointer none,.pointer none,.pointer none,.pointer none,.pointer none,.pointer none]:=by
      have:((List.range 8).map λk=>ptr (Lf (8*j+k)))=(List.range 8).map λ_=>Value.pointer none:=by
       apply j2;intro k d;rw[zg]at d;rw[y k d];rfl
      rw[this];rfl
     rw[this];exact Ws o2 x O
    ·rw[Qb _ _ hji]at a;exact r (h.jc j q e a) (h.fm j q e a).2
   ·by_cases hji:j=i
    ·subst hji;rw[Zt]at a;cases a
    ·rw[Qb _ _ hji]at a;exact h.kM j e a
   ·by_cases hji:j=i
    ·subst hji;rw[Zt]at a;cases a;exact⟨.inr (zD _),O⟩
    ·rw[Qb _ _ hji]at a;exact⟨.inl (h.fm j q e a).1,(h.fm j q e a).2⟩
   ·by_cases hji:j=i
    ·by_cases hki:k=i
     ·omega
     ·subst hji;rw[Zt]at m;cases m;rw[Qb _ _ hki]at g;have:=(h.jc k _ d g).lt;omega
    ·rw[Qb _ _ hji]at m;by_cases hki:k=i
     ·subst hki;rw[Zt]at g;cases g;have:=(h.jc j _ e m).lt;omega
     ·rw[Qb _ _ hki]at g;exact h.mm j k q e d m g
   ·by_cases hji:j=i
    ·subst hji;rw[Zt]at a;cases a;intro hl;have:=(h.leaf k _ d hl).lt;omega
    ·rw[Qb _ _ hji]at a;exact h.ml j k q e d a
  refine aG (A.rM hi ?_);rw[Zt];exact hR z _ U.size (e1.to.trans (o2.ext.sub λb w=>w▸h.fp)) (Zt _ _ _) A
theorem LN (h:jK U F p M Lf ow){i j q:Nat}(hi:i<16)(hj:j<8)(hq:M i=some q){R:Option Addr->Hp->Prop}
 (hR:∀σ' L' r,Ext F U σ'->L' (8*i+j)=some r->jK σ' (Grow F U) p M L' ow->R (some ⟨r,0,none⟩) σ'):Wy.c (some ⟨q,j,none⟩) U R:=by
 refine Wy.o ?_;unfold Wy.v;have S:8*i+j<128:=by omega
 refine Jn.intro (aG (h.rL hi hq hj ?_));cases hL:Lf (8*i+j)with
 | some r=>exact cB rfl (aG (h.rL hi hq hj (by rw[hL];exact hR U Lf r (Ext.refl _ _) hL (h.move (λ_ _ _=>rfl) λ_ _ G=>.inl G))))
 | none=>
  refine cE rfl (nw (cs:=[.int .i64 0,.int .i64 0,.int .i64 0,.int .i64 0,.int .i64 0,.int .i64 0,.int .i64 0,.int .i64 0]) λW X e1 K=>aG ?_);have Q:=h.jc i q hi hq;have V:=Q.lt;have G:=h.fm i q hi hq;refine(e1.bT Q id).s0 aE λN o2 z=>?_;have y:∀{b:Nat} {cs:List Value},bY U b cs->b≠q->bY N b cs:=λJ L=>Ws o2 (e1.bT J id) L;have P:jK N (Grow F U) p M (fC Lf (8*i+j) (some U.size)) ow:=by
   refine⟨y h.hd (Ne.symm G.2),λm x g d=>?_,λm g d B H=>?_,λk r a s=>?_,λk a s=>?_,.inl h.fp,λm x g d=>⟨.inl (h.fm m x g d).1,(h.fm m x g d).2⟩,λk r a s=>?_,h.mm,λk E r A D w u=>?_,λm k x g a d=>?_⟩
   ·by_cases hii:m=i
    ·subst hii;rw[hq]at d;cases d;rw[Q4]at z;have:((List.range 8).map (fC (λj=>ptr (Lf (8*m+j))) j (.pointer (some ⟨U.size,0,none⟩))))=(List.range 8).map λk=>ptr (fC Lf (8*m+j) (some U.size) (8*m+k)):=by
      apply j2;intro k _;simp only[fC];by_cases hkj:k=j
      ·subst hkj;simp[ptr]
      ·have:¬8*m+k=8*m+j:=by omega
       simp[hkj,this]
     rw[this]at z;exact z
    ·have C:x≠q:=λe=>by subst e;exact hii (h.mm m i x g hi d hq)
     have:=y (h.jc m x g d) C;have e:((List.range 8).map λk=>ptr (fC Lf (8*i+j) (some U.size) (8*m+k)))=(List.range 8).map λk=>ptr (Lf (8*m+k)):=by
      apply j2;intro k a;rw[zg]at a;rw[Qb _ _ O]
     rw[e];exact this
   ·have C:m≠i:=λe=>by subst e;rw[hq]at d;cases d
    rw[Qb _ _ O];exact h.kM m g d B H
   ·by_cases hkk:k=8*i+j
    ·subst hkk;rw[Zt]at s;cases s;have L:=h.iF _ S hL;have:((List.range 8).map λB=>Value.int .i64 ((ow (8*(8*i+j)+B):Nat):Int))=[.int .i64 0,.int .i64 0,.int .i64 0,.int .i64 0,.int .i64 0,.int .i64 0,.int .i64 0,.int .i64 0]:=by
      have:((List.range 8).map λB=>Value.int .i64 ((ow (8*(8*i+j)+B):Nat):Int))=(List.range 8).map λ_=>Value.int .i64 0:=by
       apply j2;intro k a;rw[zg]at a;rw[L k a];rfl
      rw[this];rfl
     rw[this];exact Ws o2 K O
    ·rw[Qb _ _ hkk]at s;exact y (h.leaf k r a s) λe=>by subst e;exact h.ml i k r hi a hq s
   ·by_cases hkk:k=8*i+j
    ·subst hkk;rw[Zt]at s;cases s
    ·rw[Qb _ _ hkk]at s;exact h.iF k a s
   ·by_cases hkk:k=8*i+j
    ·subst hkk;rw[Zt]at s;cases s;have:=h.hd.lt;exact⟨.inr (zD _),O⟩
    ·rw[Qb _ _ hkk]at s;exact⟨.inl (h.fl k r a s).1,(h.fl k r a s).2⟩
   ·by_cases e1':k=8*i+j
    ·by_cases e2':E=8*i+j
     ·omega
     ·subst e1';rw[Zt]at w;cases w;rw[Qb _ _ e2']at u;have:=(h.leaf E _ D u).lt;omega
    ·rw[Qb _ _ e1']at w;by_cases e2':E=8*i+j
     ·subst e2';rw[Zt]at u;cases u;have:=(h.leaf k _ A w).lt;omega
     ·rw[Qb _ _ e2']at u;exact h.ll k E r A D w u
   ·by_cases hkk:k=8*i+j
    ·subst hkk;rw[Zt];intro e;cases e;have:=(h.jc m _ g d).lt;omega
    ·rw[Qb _ _ hkk];exact h.ml m k x g a d
  refine aG (P.rL hi hq hj ?_);rw[Zt];exact hR N _ U.size (e1.to.trans (o2.ext.sub λb J=>J▸G.1)) (Zt _ _ _) P
theorem Jz (h:jK U F p M Lf ow){k r j no:Nat}(hk:k<128)(hr:Lf k=some r)(hj:j<8){σ':Hp}(ho:Qo U σ' r)(hb:bY σ' r (((List.range 8).map λj=>Value.int .i64 ((ow (8*k+j):Nat):Int)).set j (.int .i64 (no:Int)))) :
 jK σ' F p M Lf (fC ow (8*k+j) no):=by
 refine⟨Ws ho h.hd (Ne.symm (h.fl k r hk hr).2),λi q x y=>Ws ho (h.jc i q x y) λe=>by subst e;exact h.ml i k q x hk y hr,h.kM,λd u g b=>?_,λd g b w s=>?_,h.fp,h.fm,h.fl,h.mm,h.ll,h.ml⟩
 ·by_cases hkk:d=k
  ·subst hkk;rw[hr]at b;cases b;rw[Q4]at hb;have:((List.range 8).map (fC (λj=>Value.int .i64 ((ow (8*d+j):Nat):Int)) j (.int .i64 (no:Int))))=(List.range 8).map λw=>Value.int .i64 ((fC ow (8*d+j) no (8*d+w):Nat):Int):=by
    apply j2;intro a _;simp only[fC];by_cases haj:a=j
    ·subst haj;simp
    ·have:¬8*d+a=8*d+j:=by omega
     simp[haj,this]
   rw[this]at hb;exact hb
  ·have m:u≠r:=λe=>by subst e;exact hkk (h.ll d k u g hk b hr)
   have:=Ws ho (h.leaf d u g b) m;have e:((List.range 8).map λa=>Value.int .i64 ((fC ow (8*k+j) no (8*d+a):Nat):Int))=(List.range 8).map λa=>Value.int .i64 ((ow (8*d+a):Nat):Int):=by
    apply j2;intro a ha;rw[zg]at ha;rw[Qb _ _ O]
   rw[e];exact this
 ·have m:d≠k:=λe=>by subst e;rw[hr]at b;cases b
  rw[Qb _ _ O];exact h.iF d g b w s
theorem Sc (h:jK U F p M Lf ow){i j q:Nat}(hi:i<16)(hj:j<8)(hq:M i=some q)(hz:∀a,a<8->ow (8*(8*i+j)+a)=0){σ':Hp}(ho:Qo U σ' q)(hb:bY σ' q (((List.range 8).map λj=>ptr (Lf (8*i+j))).set j (.pointer none))) :
 jK σ' F p M (fC Lf (8*i+j) none) ow:=by
 have G:=h.fm i q hi hq;refine⟨Ws ho h.hd (Ne.symm G.2),λd y g b=>?_,λd g b E A=>?_,λk r x m=>?_,λk x m=>?_,h.fp,h.fm,λk r x m=>?_,h.mm,λk D r z C s u=>?_,λd k y g w b=>?_⟩
 ·by_cases hii:d=i
  ·subst hii;rw[hq]at b;cases b;rw[Q4]at hb;have:((List.range 8).map (fC (λj=>ptr (Lf (8*d+j))) j (.pointer none)))=(List.range 8).map λk=>ptr (fC Lf (8*d+j) none (8*d+k)):=by
    apply j2;intro k _;simp only[fC];by_cases hkj:k=j
    ·subst hkj;simp[ptr]
    ·have:¬8*d+k=8*d+j:=by omega
     simp[hkj,this]
   rw[this]at hb;exact hb
  ·have B:y≠q:=λe=>by subst e;exact hii (h.mm d i y g hi b hq)
   have:=Ws ho (h.jc d y g b) B;have e:((List.range 8).map λk=>ptr (fC Lf (8*i+j) none (8*d+k)))=(List.range 8).map λk=>ptr (Lf (8*d+k)):=by
    apply j2;intro k w;rw[zg]at w;rw[Qb _ _ O]
   rw[e];exact this
 ·simp only[fC];split
  ·rfl
  ·exact h.kM d g b E A
 ·by_cases hkk:k=8*i+j
  ·subst hkk;rw[Zt]at m;cases m
  ·rw[Qb _ _ hkk]at m;exact Ws ho (h.leaf k r x m) λe=>by subst e;exact h.ml i k r hi x hq m
 ·by_cases hkk:k=8*i+j
  ·subst hkk;exact hz
  ·rw[Qb _ _ hkk]at m;exact h.iF k x m
 ·by_cases hkk:k=8*i+j
  ·subst hkk;rw[Zt]at m;cases m
  ·rw[Qb _ _ hkk]at m;exact h.fl k r x m
 ·by_cases e1':k=8*i+j
  ·subst e1';rw[Zt]at s;cases s
  ·rw[Qb _ _ e1']at s;by_cases e2':D=8*i+j
   ·subst e2';rw[Zt]at u;cases u
   ·rw[Qb _ _ e2']at u;exact h.ll k D r z C s u
 ·by_cases hkk:k=8*i+j
  ·subst hkk;rw[Zt];intro e;cases e
  ·rw[Qb _ _ hkk];exact h.ml d k y g w b
theorem R6 (h:jK U F p M Lf ow){i:Nat}(hi:i<16)(hz:∀j,j<8->Lf (8*i+j)=none){σ':Hp}(ho:Qo U σ' p)(hb:bY σ' p ((Value.bool true::(List.range 16).map λi=>ptr (M i)).set (1+i) (.pointer none))) :
 jK σ' F p (fC M i none) Lf ow:=by
 have m:(Value.bool true::(List.range 16).map λi=>ptr (M i)).set (1+i) (.pointer none)=.bool true::(List.range 16).map λj=>ptr (fC M i none j):=by
  rw[Nat.add_comm,rX,Q4]
  congr 1
  apply j2;intro j _;simp only[fC];split<;>rfl
 rw[m]at hb;have g:∀{j q},fC M i none j=some q->M j=some q:=λ{j q} d=>by
  by_cases hji:j=i
  ·subst hji;rw[Zt]at d;cases d
  ·rwa [Qb _ _ hji]at d
 refine⟨hb,λj q e d=>Ws ho (h.jc j q e (g d)) (h.fm j q e (g d)).2,λj e d=>?_,λk q r d=>Ws ho (h.leaf k q r d) (h.fl k q r d).2,h.iF,h.fp,λj q e d=>h.fm j q e (g d),h.fl,λa b q s hb w u=>h.mm a b q s hb (g w) (g u),h.ll,λa k q s r d=>h.ml a k q s r (g d)⟩;by_cases hji:j=i
 ·subst hji;exact hz
 ·rw[Qb _ _ hji]at d;exact h.kM j e d
theorem Rl (h:ja U F p ow){x no:Nat}(hx:x<1024){R:aP}(hR:∀σ',Ext F U σ'->ja σ' (Grow F U) p (fC ow x no)->R σ'):YU.c (aW p) (x:Int) (no:Int) U R:=by
 refine YU.o ?_;unfold YU.v;obtain⟨M,Lf,h⟩:=h;have P:((x:Int).tdiv 8)=((x/8:Nat):Int):=by rw[XO O];simp
 have t2:(((x/8:Nat):Int).tdiv 8)=((x/8/8:Nat):Int):=by rw[XO O];simp
 have t3:(((x/8:Nat):Int).tmod 8)=((x/8%8:Nat):Int):=by rw[Qp O];simp
 have t4:((x:Int).tmod 8)=((x%8:Nat):Int):=by rw[Qp O];simp
 have hk:8*(x/8/8)+x/8%8=x/8:=by omega
 have hk2:8*(x/8)+x%8=x:=by omega
 refine nz aB (cP P O (nz aB (cP t2 O (aG ?_))));refine qL O ?_;rw[add_lit,add_lit,zH,m8];refine Ji h O λQ M1 q e1 H h1=>?_;refine nz aB (cP P O (nz aB (aG ?_)));rw[t3];refine qL O ?_;rw[add_lit,zH,m8];refine LN h1 O O H λv2 L2 r e2 D h2=>?_;rw[hk]at D;have Z:Ext F U v2:=e1.ju e2;refine nz aB (aG ?_);rw[t4];refine qL O ?_;rw[add_lit,zH,m8];have s:x/8<128:=by omega
 refine(h2.leaf _ r s D).s0 aE λv3 o3 b3=>?_;have A:=Jz h2 s D O o3 b3;rw[hk2]at A;have a:∀b,Grow (Grow F U) Q b->Grow F U b:=λb u=>by
  rcases u with h|h
  ·exact h
  ·exact .inr (zh e1.1 h)
 have J:Ext F U v3:=Z.dT o3.ext λb u=>by subst u;exact a _ (h2.fl _ _ s D).1
 have y:∀v L4,Ext F U v->jK v (Grow (Grow F U) Q) p M1 L4 (fC ow x no) →
  (bU (some ⟨q,0,none⟩) λe=>fW (e.add 0) v λt42=>fW (e.add 1) v λG=>fW (e.add 2) v λN=>fW (e.add 3) v λC=>fW (e.add 4) v λB=>fW (e.add 5) v λL=>fW (e.add 6) v λK=>fW (e.add 7) v λE=>
   If (t42.isNone&&(G.isNone&&(N.isNone&&(C.isNone&&(B.isNone&&(L.isNone&&(K.isNone&&(E.isNone&&true)))))))) (Nz 8<|Ar .i64 ((x:Int).tdiv 8) λW=>Nz 8<|Ar .i64 (W.tdiv 8) λt48=>bU (some ⟨p,0,none⟩) λX=>nT (X.add 1) 16 t48 1 λa51=>dS a51 (.pointer none) v λv4=>R v4) (R v)):=by
  intro v L4 ev h4;have m:=h4.jc _ q O H;have g:∀j,j<8->((List.range 8).map λj=>ptr (L4 (8*(x/8/8)+j)))[0+j]?=some (.pointer ((L4 (8*(x/8/8)+j)).map λq=>⟨q,0,none⟩)):=λj z=>by rw[zH,Q7 _ z];rfl
  refine aG (m.rP (g 0 O) (m.rP (g 1 O) (m.rP (g 2 O) (m.rP (g 3 O) (m.rP (g 4 O) (m.rP (g 5 O) (m.rP (g 6 O) (m.rP (g 7 O) ?_))))))));have fin:∀w,Ext F U w->ja w (Grow (Grow F U) Q) p (fC ow x no)->R w:=λw ew hw=>hR w ew (ja.loc.mono hw λb _ u=>a b u);refine cO (λi=>?_) λ_=>fin v ev ⟨_,_,h4⟩;have Y:∀j,j<8->L4 (8*(x/8/8)+j)=none:=by
   simp only[Option.isNone_map,uy,zF,Option.isNone_iff_eq_none]at i;intro j z;obtain⟨a0,S,a2,a3,a4,a5,V,a7⟩:=i
   match j,z with
   | 0,_=>exact a0
   | 1,_=>exact S
   | 2,_=>exact a2
   | 3,_=>exact a3
   | 4,_=>exact a4
   | 5,_=>exact a5
   | 6,_=>exact V
   | 7,_=>exact a7
  refine nz aB (cP P O (nz aB (cP t2 O (aG ?_))));refine qL O ?_;rw[add_lit,add_lit,zH,m8];refine h4.hd.s0 aE λv4 o4 b4=>fin v4 (ev.dT o4.ext λb u=>by subst u;exact a _ h4.fp) ⟨_,_,R6 h4 O Y o4 b4⟩
 refine Jn.intro (aG ?_);have d:=A.leaf _ r s D;have g:∀j,j<8->((List.range 8).map λj=>Value.int .i64 ((fC ow x no (8*(x/8)+j):Nat):Int))[0+j]?=some (.int .i64 ((fC ow x no (8*(x/8)+j):Nat):Int)):=λj z=>by rw[zH,Q7 _ z]
 refine d.rI (g 0 O) (d.rI (g 1 O) (d.rI (g 2 O) (d.rI (g 3 O) (d.rI (g 4 O) (d.rI (g 5 O) (d.rI (g 6 O) (d.rI (g 7 O) ?_)))))));refine cO (λi=>?_) λ_=>y v3 L2 J A;have Y:∀j,j<8->fC ow x no (8*(8*(x/8/8)+x/8%8)+j)=0:=by
  rw[hk];simp only[wT,uy,zF,zT]at i;intro j z;obtain⟨a0,S,a2,a3,a4,a5,V,a7⟩:=i
  match j,z with
  | 0,_=>exact a0
  | 1,_=>exact S
  | 2,_=>exact a2
  | 3,_=>exact a3
  | 4,_=>exact a4
  | 5,_=>exact a5
  | 6,_=>exact V
  | 7,_=>exact a7
 refine nz aB (cP P O (nz aB (aG ?_)));rw[t3];refine qL O ?_;rw[add_lit,zH,m8];have m:=A.jc _ q O H;refine m.s0 aE λv5 o5 b5=>?_;exact y v5 _ (J.dT o5.ext λb u=>by subst u;exact a _ (A.fm _ _ O H).1) (Sc A O O H Y o5 b5)
def jB (ow:Nat->Nat)(a m no:Nat):Nat->Nat:=if Zc 1024 a m then λp=>if a<=p/\p<a+m then no else ow p else ow
def uR (a m:Int):Int:=if Zc 1024 a m then 0 else 1
theorem CT (h:ja U F p ow)(a m:Int)(ha : -1000000000000<=a)(ha2:a<=1000000000000)(no:Nat){R:aN}(h1:Zc 1024 a m=false->R 1 U)
 (hR:∀x y:Nat,a=x->m=y->1<=y->x+y<=1024->∀σ',Ext F U σ'->ja σ' (Grow F U) p (jB ow x y no)->R 0 σ'):Yy.c (aW p) a m (no:Int) U R:=by
 refine Yy.o ?_;unfold Yy.v;have d:¬(0<=a/\1<=m/\m<=1024-a)->R 1 U:=λD=>h1 (by simp only[Zc,←uk];exact zK D);refine Aw h (cB rfl (bV.intro (cQ (λC=>bV.intro (cE rfl (bV.intro (cE rfl (cE rfl (d O)))))) λC=>?_)));refine bV.intro (cQ (λA=>bV.intro (cE rfl (cE rfl (d O)))) λA=>?_);refine bV.intro (cQ (λE=>cE rfl (d O)) λE=>ar O O (cQ (λs=>d O) λs=>?_));obtain⟨x,rfl⟩:=zc (show 0<=a by omega);obtain⟨y,rfl⟩:=zc (show 0<=m by omega);have j:Zc 1024 (x:Int) (y:Int)=true:=by simp only[Zc,zF,zU];omega
 refine ZX (a:=bN) (λ(t:Int) v=>∃i:Nat,t=((x+i:Nat):Int)/\i<=y/\Ext F U v/\ja v (Grow F U) p (λz=>if x<=z/\z<x+i then no else ow z)) (λt _=>x+y-t.toNat) ⟨0,rfl,O,Ext.refl _ _,?_⟩ ?_
 ·have:(λz=>if x<=z/\z<x+0 then no else ow z)=ow:=by
   funext z;rw[zB O]
  rw[this];exact ja.loc.mono h λb _ g=>.inl g
 rintro t v ⟨i,rfl,J,e,r⟩;refine cP (m:=x+y) O O (cQ (λB=>?_) λw=>?_)
 ·refine Rl r O λK G u=>cP (m:=x+(i+1)) O O ⟨⟨i+1,rfl,O,e.ju G,?_⟩,O⟩;refine ja.congr (ja.loc.mono u λb _ g=>?_) λz H=>?_
  ·rcases g with h|h
   ·exact h
   ·exact .inr (zh e.1 h)
  ·simp only[fC];by_cases hzi:z=x+i
   ·subst hzi;rw[zC rfl,zC O]
   ·rw[zB hzi];by_cases hin:x<=z/\z<x+i
    ·rw[zC hin,zC O]
    ·rw[zB hin,zB O]
 ·have:i=y:=by omega
  subst this;refine hR x i rfl rfl O O v e ?_;unfold jB;rw[j];exact r
theorem I3 (h:ja U F p ow)(a m:Nat)(ha:a<=1000000){no:Nat}(hno:1<=no)(hno2:no<=1000){R:aN}(hR:∀σ',Ext F U σ'->ja σ' (Grow F U) p (jB ow a m no)->R (uR a m) σ'):XS.c (aW p) a m (no:Int) U R:=by
 refine XS.o ?_;unfold XS.v;refine Aw h (bV.intro (cE rfl (bV.intro (fR O (fR O ?_)))));refine CT h a m O O no (λj=>?_) λx y w z u A σ' e r=>?_
 ·have:=hR U (Ext.refl _ _) (by unfold jB;rw[j];exact ja.loc.mono h λb _ s=>.inl s);unfold uR at this;rw[j]at this;exact this
 ·have i:a=x:=by omega
  have d:m=y:=by omega
  subst i;subst d;have g:Zc 1024 (a:Int) (m:Int)=true:=by simp only[Zc,zF,zU];omega
  have:=hR σ' e r;unfold uR at this;rw[g]at this;exact this
theorem NZ (h:ja U F p ow)(a m:Nat)(ha:a<=1000000){R:aN}(hR:∀σ',Ext F U σ'->ja σ' (Grow F U) p (jB ow a m 0)->R (uR a m) σ'):Xx.c (aW p) a m U R:=by
 refine Xx.o ?_;unfold Xx.v;refine CT h a m O O 0 (λj=>?_) λx y w z u A σ' e r=>?_
 ·have:=hR U (Ext.refl _ _) (by unfold jB;rw[j];exact ja.loc.mono h λb _ s=>.inl s);unfold uR at this;rw[j]at this;exact this
 ·have i:a=x:=by omega
  have d:m=y:=by omega
  subst i;subst d;have g:Zc 1024 (a:Int) (m:Int)=true:=by simp only[Zc,zF,zU];omega
  have:=hR σ' e r;unfold uR at this;rw[g]at this;exact this
end Go.Ar
namespace Go.Proofs
open Go.Shelf
def Tryz.iy:Go.Shelf.Ren:=⟨fun|7=>285|10=>307|n=>n,fun|23=>72|26=>3|3=>4|28=>98|0=>0|27=>97|33=>142|4=>4|n=>n,fun|n=>n⟩
theorem Tryz.mL:Go.Proofs.SlLaysZI.n7 Tryz.prog Tryz.iy:={
 mixed:=by kernel_rfl
 f7:=⟨Tryz.f285.name,by decide,Tryz.func285.trans (congrArg some (by kernel_rfl))⟩
 f10:=⟨Tryz.f307.name,by decide,Tryz.func307.trans (congrArg some (by kernel_rfl))⟩
 t0:=Tryz.underlying0
 a0:=Tryz.isAgg0
 z0:=Tryz.sizeOf0
 v0:=Tryz.zeroValue0
 t4:=Tryz.underlying4
 a4:=Tryz.isAgg4
 z4:=Tryz.sizeOf4
 v4:=Tryz.zeroValue4
 t23:=Tryz.underlying72
 a23:=Tryz.isAgg72
 z23:=Tryz.sizeOf72
 v23:=Tryz.zeroValue72
 t26:=Tryz.underlying3
 a26:=Tryz.isAgg3
 z26:=Tryz.sizeOf3
 v26:=Tryz.zeroValue3
 t27:=Tryz.underlying97
 a27:=Tryz.isAgg97
 z27:=Tryz.sizeOf97
 v27:=Tryz.zeroValue97
 t28:=Tryz.underlying98
 a28:=Tryz.isAgg98
 z28:=Tryz.sizeOf98
 v28:=Tryz.zeroValue98
 t33:=Tryz.underlying142
 a33:=Tryz.isAgg142
 z33:=Tryz.sizeOf142
 v33:=Tryz.zeroValue142}
def Tryz.jr:Go.Shelf.Ren:=⟨fun|6=>50|8=>84|9=>54|11=>118|13=>87|12=>86|23=>128|24=>129|14=>119|15=>120|16=>121|17=>122|18=>123|19=>124|20=>125|21=>126|22=>127|25=>184|26=>185|27=>186|28=>187|29=>188|30=>189|31=>244|n=>n,fun|26=>3|28=>98|24=>34|0=>0|3=>3|37=>145|48=>196|50=>55|4=>4|40=>188|39=>187|45=>193|5=>5|9=>9|51=>271|55=>275|57=>324|58=>325|33=>142|n=>n,fun|n=>n⟩
theorem Tryz.qD:Go.Proofs.SlLaysZI.n6 Tryz.prog Tryz.jr:={
 mixed:=by kernel_rfl
 f6:=⟨Tryz.f50.name,by decide,Tryz.func50.trans (congrArg some (by kernel_rfl))⟩
 f8:=⟨Tryz.f84.name,by decide,Tryz.func84.trans (congrArg some (by kernel_rfl))⟩
 f11:=⟨Tryz.f118.name,by decide,Tryz.func118.trans (congrArg some (by kernel_rfl))⟩
 t0:=Tryz.underlying0
 a0:=Tryz.isAgg0
 z0:=Tryz.sizeOf0
 v0:=Tryz.zeroValue0
 t24:=Tryz.underlying34
 a24:=Tryz.isAgg34
 z24:=Tryz.sizeOf34
 v24:=Tryz.zeroValue34
 t26:=Tryz.underlying3
 a26:=Tryz.isAgg3
 z26:=Tryz.sizeOf3
 v26:=Tryz.zeroValue3
 t28:=Tryz.underlying98
 a28:=Tryz.isAgg98
 z28:=Tryz.sizeOf98
 v28:=Tryz.zeroValue98
 i26:=by kernel_rfl}
def Tryz.nA:Go.Shelf.Ren:=⟨fun|8=>84|11=>118|n=>n,fun|26=>3|28=>98|24=>34|0=>0|33=>142|4=>4|n=>n,fun|n=>n⟩
theorem Tryz.wC:Go.Proofs.SlLaysZI.n8 Tryz.prog Tryz.nA:={
 mixed:=by kernel_rfl
 f8:=⟨Tryz.f84.name,by decide,Tryz.func84.trans (congrArg some (by kernel_rfl))⟩
 f11:=⟨Tryz.f118.name,by decide,Tryz.func118.trans (congrArg some (by kernel_rfl))⟩
 t0:=Tryz.underlying0
 a0:=Tryz.isAgg0
 z0:=Tryz.sizeOf0
 v0:=Tryz.zeroValue0
 t24:=Tryz.underlying34
 a24:=Tryz.isAgg34
 z24:=Tryz.sizeOf34
 v24:=Tryz.zeroValue34
 t26:=Tryz.underlying3
 a26:=Tryz.isAgg3
 z26:=Tryz.sizeOf3
 v26:=Tryz.zeroValue3
 t28:=Tryz.underlying98
 a28:=Tryz.isAgg98
 z28:=Tryz.sizeOf98
 v28:=Tryz.zeroValue98
 i26:=by kernel_rfl}
def Tryz.ni:Go.Shelf.Ren:=⟨fun|5=>54|8=>87|7=>86|19=>128|20=>129|10=>119|11=>120|12=>121|13=>122|14=>123|15=>124|16=>125|17=>126|18=>127|30=>184|31=>185|32=>186|33=>187|34=>188|35=>189|40=>244|n=>n,fun|23=>34|25=>3|3=>3|32=>145|22=>34|0=>0|44=>196|46=>55|4=>4|36=>188|35=>187|41=>193|5=>5|9=>9|53=>271|57=>275|63=>324|64=>325|n=>n,fun|n=>n⟩
theorem Tryz.lK:Go.Proofs.SlLaysM.n5 Tryz.prog Tryz.ni:={
 mixed:=by kernel_rfl
 f5:=⟨Tryz.f54.name,by decide,Tryz.func54.trans (congrArg some (by kernel_rfl))⟩
 f7:=⟨Tryz.f86.name,by decide,Tryz.func86.trans (congrArg some (by kernel_rfl))⟩
 f8:=Tryz.func87.trans (congrArg some (by kernel_rfl))
 f10:=⟨Tryz.f119.name,by decide,Tryz.func119.trans (congrArg some (by kernel_rfl))⟩
 f11:=⟨Tryz.f120.name,by decide,Tryz.func120.trans (congrArg some (by kernel_rfl))⟩
 f12:=⟨Tryz.f121.name,by decide,Tryz.func121.trans (congrArg some (by kernel_rfl))⟩
 f13:=⟨Tryz.f122.name,by decide,Tryz.func122.trans (congrArg some (by kernel_rfl))⟩
 f14:=⟨Tryz.f123.name,by decide,Tryz.func123.trans (congrArg some (by kernel_rfl))⟩
 f15:=⟨Tryz.f124.name,by decide,Tryz.func124.trans (congrArg some (by kernel_rfl))⟩
 f16:=⟨Tryz.f125.name,by decide,Tryz.func125.trans (congrArg some (by kernel_rfl))⟩
 f17:=⟨Tryz.f126.name,by decide,Tryz.func126.trans (congrArg some (by kernel_rfl))⟩
 f18:=⟨Tryz.f127.name,by decide,Tryz.func127.trans (congrArg some (by kernel_rfl))⟩
 f19:=Tryz.func128.trans (congrArg some (by kernel_rfl))
 f20:=Tryz.func129.trans (congrArg some (by kernel_rfl))
 f30:=⟨Tryz.f184.name,by decide,Tryz.func184.trans (congrArg some (by kernel_rfl))⟩
 f31:=Tryz.func185.trans (congrArg some (by kernel_rfl))
 f32:=Tryz.func186.trans (congrArg some (by kernel_rfl))
 f33:=⟨Tryz.f187.name,by decide,Tryz.func187.trans (congrArg some (by kernel_rfl))⟩
 f34:=⟨Tryz.f188.name,by decide,Tryz.func188.trans (congrArg some (by kernel_rfl))⟩
 f35:=⟨Tryz.f189.name,by decide,Tryz.func189.trans (congrArg some (by kernel_rfl))⟩
 f40:=⟨Tryz.f244.name,by decide,Tryz.func244.trans (congrArg some (by kernel_rfl))⟩
 t0:=Tryz.underlying0
 a0:=Tryz.isAgg0
 z0:=Tryz.sizeOf0
 v0:=Tryz.zeroValue0
 t3:=Tryz.underlying3
 a3:=Tryz.isAgg3
 z3:=Tryz.sizeOf3
 v3:=Tryz.zeroValue3
 t4:=Tryz.underlying4
 a4:=Tryz.isAgg4
 z4:=Tryz.sizeOf4
 v4:=Tryz.zeroValue4
 t5:=Tryz.underlying5
 a5:=Tryz.isAgg5
 z5:=Tryz.sizeOf5
 v5:=Tryz.zeroValue5
 t9:=Tryz.underlying9
 a9:=Tryz.isAgg9
 z9:=Tryz.sizeOf9
 v9:=Tryz.zeroValue9
 t22:=Tryz.underlying34
 a22:=Tryz.isAgg34
 z22:=Tryz.sizeOf34
 v22:=Tryz.zeroValue34
 t23:=Tryz.underlying34
 a23:=Tryz.isAgg34
 z23:=Tryz.sizeOf34
 v23:=Tryz.zeroValue34
 t25:=Tryz.underlying3
 a25:=Tryz.isAgg3
 z25:=Tryz.sizeOf3
 v25:=Tryz.zeroValue3
 t32:=Tryz.underlying145
 a32:=Tryz.isAgg145
 z32:=Tryz.sizeOf145
 v32:=Tryz.zeroValue145
 t35:=Tryz.underlying187
 a35:=Tryz.isAgg187
 z35:=Tryz.sizeOf187
 v35:=Tryz.zeroValue187
 t36:=Tryz.underlying188
 a36:=Tryz.isAgg188
 z36:=Tryz.sizeOf188
 v36:=Tryz.zeroValue188
 t41:=Tryz.underlying193
 a41:=Tryz.isAgg193
 z41:=Tryz.sizeOf193
 v41:=Tryz.zeroValue193
 t44:=Tryz.underlying196
 a44:=Tryz.isAgg196
 z44:=Tryz.sizeOf196
 v44:=Tryz.zeroValue196
 t46:=Tryz.underlying55
 a46:=Tryz.isAgg55
 z46:=Tryz.sizeOf55
 v46:=Tryz.zeroValue55
 t53:=Tryz.underlying271
 a53:=Tryz.isAgg271
 z53:=Tryz.sizeOf271
 v53:=Tryz.zeroValue271
 t57:=Tryz.underlying275
 a57:=Tryz.isAgg275
 z57:=Tryz.sizeOf275
 v57:=Tryz.zeroValue275
 t63:=Tryz.underlying324
 a63:=Tryz.isAgg324
 z63:=Tryz.sizeOf324
 v63:=Tryz.zeroValue324
 t64:=Tryz.underlying325
 a64:=Tryz.isAgg325
 z64:=Tryz.sizeOf325
 v64:=Tryz.zeroValue325}
end Go.Proofs
namespace Go.Bu
open Go Go.Vc Go.Proofs Go.RowKit Go.Maps Go.Sort Go.Shelf
variable {U:Hp}
def lY (B:Nat)(h:Hp)(s:Sl)(xs:List Value):Prop:=
 s.len=xs.length/\(xs=[]/\s.a=none\/∃b cs,B<=b/\s.a=some ⟨b,0,none⟩/\bY h b cs/\∀j,j<xs.length->cs[j]?=xs[j]?)
theorem lY.bS {B:Nat}{h h':Hp}{s:Sl}{xs:List Value}{F:Nat->Prop}(hs:lY B h s xs)(e:Ext F h h')(hF:∀b,F b->b<B):lY B h' s xs:=by
 refine⟨hs.1,hs.2.imp id ?_⟩;rintro⟨b,cs,hb,ha,hk,hc⟩;exact⟨b,cs,hb,ha,e.bT hk (λa=>by have:=hF b a;omega),hc⟩
theorem lY.mono {B B':Nat}{h:Hp}{s:Sl}{xs:List Value}(hs:lY B h s xs)(hB:B'<=B):lY B' h s xs:=by
 refine⟨hs.1,hs.2.imp id ?_⟩;rintro⟨b,cs,hb,ha,hk,hc⟩;exact⟨b,cs,O,ha,hk,hc⟩
theorem lY.np {B:Nat}{h:Hp}{s:Sl}{xs:List Int}(hs:lY B h s (xs.map (Value.int .i64))){i:Nat}{x:Int}(hx:xs[i]?=some x){K:Int->Prop}(hK:K x) :
 Ix s.a s.len (i:Int) 1 λa=>gA .i64 a h K:=by
 have d:i<xs.length:=(cV.1 hx).1;rcases hs.2 with⟨h0,_⟩|⟨b,cs,_,ha,hb,hc⟩
 ·simp at h0;subst h0;simp at d
 ·rw[ha];refine ix O (by rw[hs.1];simp;omega) ?_;rw[add_lit];refine nQ ?_ hK;rw[hb.cell];have:=hc i (by simpa using d);simpa[hx]using this
theorem VC {w w':World}(h:Below w.heap.size w w'):bK w.heap w'.heap:=⟨h.size,λb a _=>h.block b a⟩
theorem Hc {n:Nat}{w w':World}(h:Below n w w'):W7 w w':=⟨h.os,h.tape,h.output,h.size⟩
def uf:Nat:=Tryz.iy.f 10
def Er:Nat:=Tryz.iy.t 23
theorem Nc (m:Option Nat){R:Fv->Hp->Prop}(hR:R ⟨uf,#[],#[.pointer (some ⟨U.size,0,none⟩)]⟩ (U.push (.cells #[.map m] Er (0,0)))) :
 Z9.c m U R:=by
 rintro w rfl;refine(callsIn_wide.1 (AnyZI.keys_in Tryz.mL Fence.wide 5 trivial rfl m w)).mono ?_;rintro e a ⟨rfl,rfl⟩;exact⟨⟨rfl,rfl,rfl,rG (by show _<(w.heap.push _).size;simp)⟩,[.func (.func uf) #[] #[.pointer (some ⟨w.heap.size,0,none⟩)]],rfl,⟨uf,#[],#[.pointer (some ⟨w.heap.size,0,none⟩)]⟩,rfl,hR⟩
def k6 (x:Int):Prop:=-9223372036854775808<=x/\x<=9223372036854775807
theorem KR {P:Program}{kt:Nat}(hk:P.underlying kt=some (.int .i64)){w:World}{m:Nat}{c:CK}{B:List (Int×c.T)}(h:dH w.heap m .i64 c B)(hb:∀x∈B,k6 x.1)(hs:B.length<=1000000) :
 ∃D:DataW Unit,w.ownsMap P kt (λ_=>some (.nil,[])) m B.length D/\(intKeys D).Perm (B.map (·.1))/\Maps.size D=B.length:=by
 obtain⟨d,F,M,s,L,J,C⟩:=h;have i:d.size=B.length:=by simpa using congrArg List.length s
 have j:∀e∈d.toList,∃x:Int,e.key=.int .i64 x/\k6 x:=by
  intro e hme;have:(e.key,e.val)∈d.toList.map (λe=>(e.key,e.val)):=xP hme;rw[s]at this;obtain⟨y,K,e2⟩:=zE.1 this;simp only[Prod.mk.injEq]at e2;exact⟨y.1,e2.1.symm,hb y K⟩
 have wf:∀x:Int,k6 x->(Lit.int .i64 x).wf=true:=by
  rintro x ⟨u,Q⟩;simp[Lit.wf,IntKind.min,IntKind.max,IntKind.bits,IntKind.signed];omega
 have r:∀e∈d.toList,∃x:Int,e.key=.int .i64 x/\Go.WideElems.rd P kt (λ_=>some ((.nil:DataW Unit),[])) e=some (.int .i64 x,.nil):=by
  intro e hme;obtain⟨x,g,H⟩:=j e hme;refine⟨x,g,?_⟩;simp[Go.WideElems.rd,keyOf,hk,g,mapKey,wf x H]
 refine⟨.map ((d.toList.map (Go.WideElems.rg P kt (λ_=>some (.nil,[])))).foldr DataW.insert []),⟨d,F,M,⟨?_,⟨λx g=>C x g,?_,?_⟩,λx g=>?_⟩,O,rfl⟩,?_,?_⟩
 ·have:1000000<=maxLen:=by unfold maxLen;omega
  omega
 ·exact J.imp (λh=>uV h)
 ·have E:d.toList.map (·.key)=(B.map (·.1)).map (Value.int .i64):=by
   have:=congrArg (List.map Prod.fst) s;simpa[lb,Function.comp_def]using this
  rw[E];exact List.Pairwise.map _ (λa b (A:a≠b) z=>A (by simpa using z)) L
 ·obtain⟨N,_,u⟩:=r x g;exact⟨_,u⟩
 ·simp only[intKeys];refine((Go.WideShapes.sorted_perm _).map _).trans ?_;rw[lb];have:d.toList.map ((λp=>Go.intOf p.1)∘Go.WideElems.rg P kt (λ_=>some ((.nil:DataW Unit),[])))=B.map (·.1):=by
   have E:d.toList.map (·.key)=(B.map (·.1)).map (Value.int .i64):=by
    have:=congrArg (List.map Prod.fst) s;simpa[lb,Function.comp_def]using this
   have G:d.toList.map ((λp=>Go.intOf p.1)∘Go.WideElems.rg P kt (λ_=>some ((.nil:DataW Unit),[])))=(d.toList.map (·.key)).map (λv=>match v with | .int _ x=>x|_=>0):=by
    rw[lb];apply j2;intro e hme;obtain⟨x,g,u⟩:=r e hme;simp[Function.comp,Go.WideElems.rg,u,g,Go.intOf]
   rw[G,E,lb]
   conv=>rhs;rw[←uQ (B.map (·.1))]
   rfl
  rw[this]
 ·simp only[Maps.size];rw[(Go.WideShapes.sorted_perm _).length_eq];simp[i]
theorem UT {w:World}{B e n:Nat}{v:Value}{xs:List Value}(h:w.ownsRow B e 1 v n xs):∃s:Sl,v=.slice s.a s.len s.cap/\lY B w.heap s xs:=by
 obtain⟨b,h⟩:=h;rcases h with⟨rfl,rfl⟩|⟨g,cap,cur,rfl,hb,hg,_,_,hcs,ht⟩
 ·exact⟨⟨none,0,0⟩,rfl,by simp at b;simp[b],.inl ⟨by simpa using b,rfl⟩⟩
 ·refine⟨⟨some ⟨g,0,none⟩,n,cap⟩,rfl,by simp at b;simp[b],.inr ⟨g,cur.toList,hb,rfl,⟨e,by simpa using hg⟩,λj d=>?_⟩⟩;rw[←ht,zj,zC O]
theorem PC {w:World}{c m:Nat}{B:List (Int×Bool)}(hc:cell w.heap ⟨c,0,none⟩=some (.map (some m)))(hm:dH w.heap m .i64 .b B)(hb:∀x∈B,k6 x.1)(hs:B.length<=1000000)(n:Nat)(hn:1<=n) :
 SeqGives Fence.wide n Tryz.prog uf #[.pointer (some ⟨c,0,none⟩)] encZ (λss=>ss.Perm (B.map (·.1))) B.length w:=by
 obtain⟨D,j,p,d⟩:=KR (P:=Tryz.prog) Tryz.mL.t26 hm hb hs;have a:c<w.heap.size:=by
  unfold cell at hc;split at hc
  ·rename_i h;exact(zt.1 h).1
  ·cases hc
 have:=AnyZI.keys_gives (ρ:=Tryz.iy) {Tryz.mL with} Fence.wide n trivial rfl hn c m B.length D w a hc j;intro l J W hW hJ hY h0;rw[d]at this;refine(this l J W hW hJ hY h0).mono ?_;rintro e W' ⟨g,ss,i,r⟩;exact⟨g,ss,i.trans p,r⟩
theorem yl (m:Nat):AnyZI.SortsIn Tryz.prog Tryz.jr Fence.wide m:=
 ⟨λbT d cap g W e a b=>callsIn_wide.2 (AnyM.slices_Sort_int Tryz.lK bT d cap g W e a b),
  λp cap W=>callsIn_wide.2 (AnyM.slices_Sort_int_none Tryz.lK p cap W)⟩
theorem Lh {c m:Nat}{B:List (Int×Bool)}(hc:cell U ⟨c,0,none⟩=some (.map (some m)))(hm:dH U m .i64 .b B)(hb:∀x∈B,k6 x.1)(hs:B.length<=1000000){R:Sl->Hp->Prop}
 (hR:∀(s:Sl) (σ':Hp) (ss:List Int),bK U σ'->ss.Perm (B.map (·.1))->lY U.size σ' s (ss.map (Value.int .i64))->R s σ') :
 Vb.c ⟨uf,#[],#[.pointer (some ⟨c,0,none⟩)]⟩ U R:=by
 rintro w rfl;have i:=PC hc hm hb hs 3 O;have j:B.length<=maxLen:=by unfold maxLen;omega
 have y:=AnyZI.collect_in Tryz.wC Fence.wide 5 trivial trivial rfl O uf #[.pointer (some ⟨c,0,none⟩)] trivial (Tryz.mL.f10.enters rfl) _ _ j O _ i;refine(callsIn_wide.1 y).mono ?_;rintro e z ⟨v,ss,rfl,u,g,r,d⟩;obtain⟨s,rfl,p⟩:=UT g;exact⟨Hc d,[.slice s.a s.len s.cap],rfl,s,rfl,hR s _ ss (VC d) u p⟩
end Go.Bu
namespace Go.Bu
open Go Go.Vc Go.Proofs
variable {U:Hp}{p n sb:Nat}{S:Nat->Bool}{ms:List Nat}
theorem Sm {B:Nat}{s:Sl}{xs:List Int}(hs:lY B U s (xs.map (Value.int .i64)))(hl:xs.length<1000000000){m:Int}(hm:m∈xs)(hle:∀y∈xs,m<=y){R:aN}(hR:R m U):XL.c s U R:=by
 refine XL.o ?_;unfold XL.v;have w:s.len=xs.length:=by simpa using hs.1
 have g:0<xs.length:=List.length_pos_of_mem hm;refine Jn.intro (fR O ?_);have u:xs[0]?=some xs[0]:=by simp[g]
 refine hs.np (i:=0) u ?_;refine Uw (a:=bN) (bb:=bN) (λ(c t:Int) A=>∃k:Nat,t=(k:Int)/\k<=xs.length/\A=U/\c∈xs/\∀(j:Nat) (y:Int),j<k->xs[j]?=some y->c<=y) (λ_ t _=>xs.length-t.toNat)
  ⟨1,rfl,O,rfl,j3 _,λj y p d=>?_⟩ ?_
 ·have:j=0:=by omega
  subst this;rw[u]at d;cases d;omega
 rintro c t A ⟨k,rfl,G,rfl,x,b⟩;refine cQ (λE=>?_) (λC=>?_)
 ·have r:k<xs.length:=by omega
  have z:xs[k]?=some xs[k]:=by simp[r]
  refine hs.np z (cP (m:=k+1) O O ⟨⟨k+1,rfl,O,rfl,?_,λj y p d=>?_⟩,O⟩)
  ·split
   ·exact j3 _
   ·exact x
  ·by_cases e:j=k
   ·subst e;rw[z]at d;cases d;split<;>omega
   ·have:=b j y O d;split<;>omega
 ·have:k=xs.length:=by omega
  subst this;obtain⟨j,p,e⟩:=uE hm;have F:=b j m p (by simp[p,e]);have D:=hle c x;have:c=m:=Int.le_antisymm F D;rw[this];exact hR
def Ka (n:Nat)(S:Nat->Bool)(k:Nat):List Nat:=((List.range n).filter (can S k)).map (· * 2^k)
theorem Mr (hb:Bounded S n){k q:Nat}(hc:can S k q=true):q<n:=by
 have:=ZF hb (Zw.1 hc).1;have a:=kF k;have b:q<=q*2^k:=Nat.le_mul_of_pos_right _ a;omega
theorem QG (hb:Bounded S n){k x:Nat}:x∈Ka n S k↔∃q,x=q*2^k/\can S k q=true:=by
 simp only[Ka,zE,zI,zg];constructor
 ·rintro⟨q,⟨_,hc⟩,rfl⟩;exact⟨q,rfl,hc⟩
 ·rintro⟨q,rfl,hc⟩;exact⟨q,⟨Mr hb hc,hc⟩,rfl⟩
theorem UO (n:Nat)(S:Nat->Bool)(k:Nat):(Ka n S k).Pairwise (· < ·):=by
 unfold Ka;refine List.Pairwise.map _ (λa b h=>Nat.mul_lt_mul_of_pos_right h (kF k)) ?_;exact List.Pairwise.sublist sX List.pairwise_lt_range
theorem Hk (n:Nat)(S:Nat->Bool)(k:Nat):(Ka n S k).length=many n S k:=by
 simp[Ka,many,yA]
theorem Lp {k:Nat}{B:List (Int×Bool)}(hK:Keys S k B)(hn:(B.map (·.1)).Nodup)(hb:Bounded S n):(B.map (·.1)).Perm ((Ka n S k).map λ(x:Nat)=>(x:Int)):=by
 rw[Ay hn]
 ·intro x;simp only[zE];constructor
  ·rintro⟨⟨x1,x2⟩,hm,rfl⟩;obtain⟨_,q,g,d⟩:=hK.1 x1 x2 hm;exact⟨_,(QG hb).2 ⟨q,rfl,d⟩,g.symm⟩
  ·rintro⟨y,hy,rfl⟩;obtain⟨q,rfl,d⟩:=(QG hb).1 hy;exact⟨_,hK.2 q d,rfl⟩
 ·refine List.Pairwise.map _ (λa b (i:a<b)=>?_) (UO n S k);intro e;have:a=b:=by exact_mod_cast e
  omega
theorem RE {k:Nat}{B:List (Int×Bool)}(hK:Keys S k B)(hb:Bounded S n)(hn:n<=1024):∀x∈B,k6 x.1:=by
 rintro⟨x,v⟩ hx;obtain⟨_,q,rfl,a⟩:=hK.1 x v hx;have:=ZF hb (Zw.1 a).1;have:=kF k;constructor<;>simp only<;>omega
theorem Rx (h:BH U p n S sb ms){k:Nat}(hk:ms.length<=k):Ka n S k=[]:=by
 rw[List.eq_nil_iff_forall_not_mem];intro x hx;obtain⟨q,_,a⟩:=(QG h.jm).1 hx;have:=h.fits (ZF h.jm (Zw.1 a).1);omega
theorem RC {h:Hp}{v:Value}{e:Nat}:cell (h.push (.cells #[v] e (0,0))) ⟨h.size,0,none⟩=some v:=by simp[cell]
theorem US (h:Hp)(o:Obj):bK h (h.push o):=Ext.push _ _ _
def eX (a:Int):Bool:=(List.range 11).any λk=>a==((2^k:Nat):Int)
theorem N4:(List.range 1025).all (λa=>a==0||((a &&& (a-1))==0)==((List.range 11).any λk=>a==2^k))=true:=by decide +kernel
theorem UG {a:Nat}(h1:1<=a)(h2:a<=1024):((a &&& (a-1))==0)=((List.range 11).any λk=>a==2^k):=by
 have:=j6.1 N4 a (zg.2 O);simp only[nm,zT]at this;rcases this with h|h
 ·omega
 ·exact h
theorem K0 (a:Nat):eX (a:Int)=((List.range 11).any λk=>a==2^k):=by
 unfold eX
 congr 1
 funext k
 rw[lZ];simp only[zT];exact⟨λh=>by exact_mod_cast h,λh=>by exact_mod_cast h⟩
def fI (aF align:Int):Bool:=decide (1<=aF)&&(decide (aF<=1024)&&(decide (1<=align)&&(decide (align<=1024)&&eX align)))
def ZA (n:Nat)(S:Nat->Bool)(aF align:Nat):Nat->Option Nat
 | 0=>none
 | k+1=>match ZA n S aF align k with
  | some x=>some x
  | none=>if aF<=2^k/\align<=2^k then(Ka n S k).head? else none
def Y9 (n:Nat)(S:Nat->Bool)(aF align:Nat):Option Nat:=ZA n S aF align 11
def iR (n:Nat)(S:Nat->Bool)(aF align:Int):Int:=if fI aF align then(match Y9 n S aF.toNat align.toNat with|some _=>0|none=>6)else 1
def iY (n:Nat)(S:Nat->Bool)(aF align:Int):Nat:=if fI aF align then(match Y9 n S aF.toNat align.toNat with|some x=>x|none=>0)else 0
def iN (n:Nat)(S:Nat->Bool)(aF align:Int):Nat->Bool:=if fI aF align then(match Y9 n S aF.toNat align.toNat with|some x=>take S x (x+aF.toNat)|none=>S)else S
theorem SE {n:Nat}{S:Nat->Bool}{m a k x:Nat}(h:ZA n S m a k=some x):∀j,k<=j->ZA n S m a j=some x:=by
 intro j hj
 induction j with
 | zero=>
  have:k=0:=by omega
  subst this;exact h
 | succ j ih=>
  by_cases e:k=j+1
  ·subst e;exact h
  ·simp only[ZA,ih O]
theorem OQ (h:BH U p n S sb ms){m a:Nat}(hn:ZA n S m a ms.length=none):∀j,ms.length<=j->ZA n S m a j=none:=by
 intro j hj
 induction j with
 | zero=>
  have:ms.length=0:=by omega
  rw[this]at hn;exact hn
 | succ j ih=>
  by_cases e:ms.length=j+1
  ·rw[←e];exact hn
  ·simp only[ZA,ih O,Rx h (show ms.length<=j by omega)];simp
theorem Ro {k:Nat}(hpos:0<many n S k):∃x rest,Ka n S k=x::rest:=by
 rw[←Hk]at hpos
 match h:Ka n S k with
 | []=>rw[h]at hpos;simp at hpos
 | x::r=>exact⟨x,r,rfl⟩
theorem kU (h:BH U p n S sb ms)(aF align:Int){R:Int->Int->Hp->Prop}
 (hR:∀σ',Ext (· ∈ ms) U σ'->BH σ' p n (iN n S aF align) sb ms->R ((iY n S aF align:Nat):Int) (iR n S aF align) σ'):Xz.c (aW p) aF align U R:=by
 refine Xz.o ?_;unfold Xz.v;have hn2:=h.n2;have hl:=h.len;have G:fI aF align=false->R 0 1 U:=λe=>by
  have:=hR U (Ext.refl _ _);simp only[iN,iY,iR,e,zd,zz]at this;exact this h
 have d:¬(1<=aF/\aF<=1024/\1<=align/\align<=1024)->R 0 1 U:=λhn=>G (by
  simp only[fI,←Bool.and_assoc,←uk];rw[zK];rfl;omega)
 refine Ac h (cB rfl (bV.intro ?_));refine cQ (λh1=>bV.intro (cE rfl (bV.intro (cE rfl (bV.intro (cE rfl (cE rfl (d O)))))))) λh1=>?_;refine bV.intro (cQ (λh2=>bV.intro (cE rfl (bV.intro (cE rfl (cE rfl (d O)))))) λh2=>?_);refine bV.intro (cQ (λZ=>bV.intro (cE rfl (cE rfl (d O)))) λZ=>?_);refine bV.intro (cQ (λh4=>cE rfl (d O)) λh4=>?_);obtain⟨a,rfl⟩:=zc (show 0<=align by omega);obtain⟨m,rfl⟩:=zc (show 0<=aF by omega);refine cP (m:=a-1) O O ?_;rw[iQ O O];have L:((((a &&& (a-1):Nat):Int)) != 0) = !eX (a:Int):=by
  rw[K0,←UG O O];simp only[bne,Bool.not_inj_iff];rw[lZ];simp only[zT];omega
 rw[L];cases P:eX (a:Int)
 ·refine cE rfl (G ?_);simp[fI,P]
 refine cB rfl ?_;have N:fI (m:Int) (a:Int)=true:=by
  simp only[fI,P,uy,zF,zU];omega
 refine aG (h.rB λcap=>?_);refine ZX (a:=bN) (λt F=>∃k:Nat,t=(k:Int)/\k<=ms.length/\F=U/\ZA n S m a k=none) (λt _=>ms.length-t.toNat) ⟨0,rfl,O,rfl,rfl⟩ ?_;rintro t F ⟨k,rfl,hk,rfl,r⟩;refine cQ (λV=>?_) (λX=>?_)
 ·simp only at V;obtain⟨mm,hm⟩:=h.get (k:=k) O;refine h.rM hm (mi O (bV.intro ?_));have next:ZA n S m a (k+1)=none->Ar .i64 ((k:Int)+1) λJ=>(∃k:Nat,J=(k:Int)/\k<=ms.length/\F=F/\ZA n S m a k=none)/\ms.length-J.toNat<ms.length-(k:Int).toNat:=
   λM=>cP (m:=k+1) O O ⟨⟨k+1,rfl,O,rfl,M⟩,O⟩
  refine cQ (λH=>?_) (λaa=>cB rfl (next ?_))
  ·have j:m<=2^k/\a<=2^k:=by
    have:((if(a:Int)>(m:Int)then(a:Int)else(m:Int))<=((2^k:Nat):Int)):=H
    split at this<;>omega
   refine h.kK hm ?_;refine cQ (λhpos=>?_) (λhz=>next ?_)
   ·have C:0<many n S k:=by omega
    obtain⟨x,rest,Q⟩:=Ro C;obtain⟨q,rfl,hc⟩:=(QG h.jm (k:=k) (x:=x)).1 (by rw[Q];simp);have E:Y9 n S m a=some (q*2^k):=by
     refine SE (k:=k+1) ?_ 11 O;simp only[ZA,r,zC j,Q,List.head?_cons]
    have hfb:=ZF h.jm (Zw.1 hc).1;obtain⟨B,hB,w⟩:=h.maps k mm hm;have g:=CB w hB.nodup h.jm;have hle:B.length<=1024:=by
     rw[g];have:=List.countP_le_length (p:=can S k) (l:=List.range n);simp only[many,xl]at *;omega
    refine Nc _ ?_;have e1:=US F (.cells #[.map (some mm)] Er (0,0));refine Lh RC (e1.fQ hB id) (RE w h.jm h.n2) O λs σ' ss e2 P Y=>?_;have D:=P.trans (Lp w hB.nodup h.jm);have u:=D.length_eq;simp only[zl]at u;rw[Hk,←g]at u;refine Sm Y O (m:=((q*2^k:Nat):Int)) (D.mem_iff.2 (by rw[Q];simp)) (λy hy=>?_) ?_
    ·have A:=D.mem_iff.1 hy;have b:=UO n S k;rw[Q]at A b;simp only[zS,zW,zE]at A;rcases A with rfl|⟨z,hz,rfl⟩
     ·omega
     ·have:=(rH.1 b).1 z hz;omega
    ·have W:=(h.bO e1).bO e2;refine Md W O (λy hy1 hy2=>VV hc (Z3.2 O)) λZ e3 hB3=>?_;have:=hR Z ((e1.to.trans e2.to).trans e3);simp only[iN,iY,iR,N,dE,E,zR]at this;exact this hB3
   ·simp only[ZA,r,zC j];have:Ka n S k=[]:=A0 (by rw[Hk];omega);rw[this];rfl
  ·have K:¬(m<=2^k/\a<=2^k):=by
    have:¬((if(a:Int)>(m:Int)then(a:Int)else(m:Int))<=((2^k:Nat):Int)):=aa
    split at this<;>omega
   simp only[ZA,r,zB K]
 ·simp only at X;have:k=ms.length:=by omega
  subst this;have E:Y9 n S m a=none:=OQ h r 11 O;have:=hR F (Ext.refl _ _);simp only[iN,iY,iR,N,dE,E,zR]at this;exact this h
end Go.Bu
namespace Go.Ar
open Go.Bu
structure AR where
 n:Nat
 room:Nat
 tb:List bZ
 S:Nat->Bool
 st:List Nat
 ow:Nat->Nat
 cD:List (List cF)
 cM:List gD
 runs:List (Nat×Nat)
def AR.ck (A:AR)(k:Int):Bool:=decide (0<=k)&&decide (k<(A.tb.length:Int))
def VU (A:AR)(r:Nat×Nat):AR:={A with ow:=jB A.ow r.1 r.2 0,st:=V7 A.st r.1 r.2 2 [1],S:=Qx A.n A.S r.1 r.2}
def VX (A:AR)(rs:List (Nat×Nat)):AR:=rs.foldl VU A
def cY (sp:Sp)(size:Nat):Option Nat:=((List.range (sp.st.length/size)).map (· * size)).find? λs=>s != 0&&fA sp s size==0
def Uv (st:List Nat)(a m:Nat):List Nat:=((List.range m).map (a + ·)).foldl (λl (h:Nat)=>iW l h) st
def Ux (A:AR)(sp:Sp)(size:Nat):Option (AR×Sp):=match cY sp size with
 | none=>none
 | some s=>some ({A with st:=Uv A.st (s/16) (size/16),S:=Qx A.n A.S s size},fT sp s size)
def QP (m:Nat):Nat:=if m<=16 then 16 else if m<=32 then 32 else 64
def dN (A:AR)(x aF no:Nat):AR:={A with S:=take A.S x (x+aF),st:=V7 A.st x aF 1 [2,3],ow:=jB A.ow x aF no}
def cZ (A:AR)(sp:Sp)(aF align no:Nat):Option Nat×AR×Sp:=match Y9 A.n A.S aF align with
 | some x=>(some x,dN A x aF no,sp)
 | none=>match Ux A sp (QP (max aF align))with
  | none=>(none,A,sp)
  | some (A',sp')=>match Y9 A'.n A'.S aF align with
   | some x=>(some x,dN A' x aF no,sp')
   | none=>(none,A',sp')
def ZY (A:AR)(k:Int):Int:=if A.ck k then(match A.cM[k.toNat]? with
 | some t=>if t.bs=[]then 4 else 0
 | none=>5)else 1
def Yp (A:AR)(k:Int):List Int:=if ZY A k=0 then(match A.cM[k.toNat]? with
 | some t=>t.bs.getLast?.getD []
 | none=>[])else[]
def Zx (A:AR)(k:Int):AR:=if ZY A k=0 then{A with cM:=A.cM.modify k.toNat gD.rem}else A
def U6 (A:AR)(k:Int)(xs:List Int):Int:=if A.ck k then(match A.tb[k.toNat]?,A.cD[k.toNat]? with
 | some c,some ss=>if xs.length=c.batch then(if xs.all (λx=>dX c ss x==some true)then 0 else 8)else 1
 | _,_=>5)else 1
def KQ (A:AR)(k:Int)(xs:List Int):Bool:=decide (U6 A k xs=0)&&(match A.cM[k.toNat]? with
 | some t=>decide (t.bs.length<A.room)
 | none=>false)
def QV (A:AR)(k:Int)(xs:List Int):AR:=if KQ A k xs then{A with cM:=A.cM.modify k.toNat λt=>{t with bs:=t.bs++[xs]}}else A
def Qq (A:AR)(k m:Int):Int:=if A.ck k then(if m<0 then 1 else 0)else 1
def Vk (A:AR)(k m:Int):List Nat×List cF:=match A.tb[k.toNat]?,A.cD[k.toNat]? with
 | some c,some ss=>QS c m.toNat ss
 | _,_=>([],[])
def Ya (A:AR)(k m:Int):List Nat:=if Qq A k m=0 then(Vk A k m).1 else[]
def Yr (A:AR)(k m:Int):AR:=if Qq A k m=0 then{A with cD:=A.cD.set k.toNat (Vk A k m).2}else A
def QJ (A:AR)(k:Int)(xs:List Int):Int:=if A.ck k then(match A.tb[k.toNat]?,A.cD[k.toNat]? with
 | some c,some ss=>iD c ss xs
 | _,_=>5)else 1
def Zu (A:AR)(k:Int)(xs:List Int):AR:=if QJ A k xs=0 then(match A.tb[k.toNat]?,A.cD[k.toNat]? with
 | some c,some ss=>VX {A with cD:=A.cD.set k.toNat (cG (xs.foldl (fE c) ss))} ((Qe (xs.foldl (fE c) ss)).map λs=>(s,c.aF))
 | _,_=>A)else A
def KC (A:AR)(sp:Sp)(k:Int):Int:=if A.ck k then(match A.tb[k.toNat]?,A.cD[k.toNat]? with
 | some c,some ss=>(match (cZ A sp c.aF 1 (k.toNat+1)).1 with
  | some x=>H4 c ss x
  | none=>6)
 | _,_=>5)else 1
def cL (A:AR)(sp:Sp)(k:Int):AR×Sp:=if A.ck k then(match A.tb[k.toNat]?,A.cD[k.toNat]? with
 | some c,some ss=>(match cZ A sp c.aF 1 (k.toNat+1)with
  | (some x,A',sp')=>(if H4 c ss x=0 then{A' with cD:=A'.cD.set k.toNat (ik c ss x)}else A',sp')
  | (none,A',sp')=>(A',sp'))
 | _,_=>(A,sp))else(A,sp)
def Q5 (m a:Int):Bool:=decide (1<=m)&&(decide (m<=64)&&(a==1||(a==2||(a==4||(a==8||a==16)))))
def Qi (A:AR)(sp:Sp)(m a:Int):Int:=if Q5 m a then(if(cZ A sp m.toNat a.toNat 41).1.isSome then 0 else 6)else 1
def ZW (A:AR)(sp:Sp)(m a:Int):Nat:=if Q5 m a then(cZ A sp m.toNat a.toNat 41).1.getD 0 else 0
def cA (A:AR)(sp:Sp)(m a:Int):AR×Sp:=if Q5 m a then(match cZ A sp m.toNat a.toNat 41 with
 | (some x,A',sp')=>({A' with runs:=mset2 A'.runs x m.toNat},sp')
 | (none,A',sp')=>(A',sp'))else(A,sp)
where mset2 (l:List (Nat×Nat)) (x m:Nat):List (Nat×Nat):=if l.any (λr=>r.1==x)then l.map (λr=>if r.1==x then(x,m)else r)else l++[(x,m)]
def pL (A:AR)(x:Int):Option (Nat×Nat):=A.runs.find? λr=>(r.1:Int)==x
def KH (A:AR)(x:Int):Int:=if(pL A x).isSome then 0 else 8
def Qr (A:AR)(x:Int):AR:=match pL A x with
 | some r=>VU {A with runs:=A.runs.filter λq=>!((q.1:Int)==x)} r
 | none=>A
def qP (A:AR)(p:Nat):Option (Nat×Nat):=A.runs.find? λr=>decide (r.1<=p)&&decide (p<r.1+r.2)
def UC (A:AR)(x:Int):Option (Int×Nat):=if x<0 then none else
 let p:=x.toNat/256
 let no:=if p<1024 then A.ow p else 0
 if no=0 then none else if no=41 then(qP A p).map λr=>(-1,r.1*256)else
 match A.tb[no-1]?,A.cD[no-1]? with
 | some c,some ss=>(qH c ss x).map λa=>(((no-1:Nat):Int),a)
 | _,_=>none
def vE (A:AR)(x:Int):Bool:=match UC A x with
 | some (k,a)=>if(a:Int)=x then(if k<0 then true else(match A.tb[k.toNat]?,A.cD[k.toNat]? with
  | some c,some ss=>dX c ss x==some true
  | _,_=>false))else false
 | none=>false
def GZ (A:AR)(p:Int):Bool:=decide (0<=p)&&decide (A.st.getD p.toNat 0≠0)
def uh (A:AR)(k:Nat):AR:=match A.cM[k]? with
 | some t=>t.out.foldl (λA' xs=>Zu A' k xs) {A with cM:=A.cM.set k t.tick}
 | none=>A
def rW (A:AR):AR:=(List.range A.cM.length).foldl uh A
end Go.Ar
namespace Go.Ar
open Go.Vc (bW dB cS)
inductive Ph where
 | take (k:Nat)
 | cH (k w:Nat)
 | cJ (k w:Nat)
 | grow (k w:Nat)
 | fill
 | eD (m:Nat)
 | find (x:Int)
 | put (k:Nat) (x:Int)
 | back
 | dC (s a:Int)
 | drain
 deriving DecidableEq
structure Th where
 ls:List Li
 bP:List Bt
 ph:Option Ph
structure Cf where
 aF:Nat
 gY:Nat
 threads:Nat
 dA:Nat
 room:Nat
abbrev Bk:=Int×Int×Int×Int
structure Hw where
 tb:List bZ
 cf:Cf
 sp:Sp
 bX:List AR
 bQ:List Th
 live:List (Int×Bk)
def XN (bX:List AR)(x:Int):Int:=if x<0 then -1 else match bX.findIdx? (λA=>GZ A (x/256))with
 | some i=>(i:Int)
 | none=>-1
def Hw.own (H:Hw)(t:Nat):Nat:=t%H.bX.length
def Hw.dV (H:Hw)(t:Nat)(f:Th->Th):Hw:={H with bQ:=H.bQ.modify t f}
def Hw.cC (H:Hw)(k:Nat)(A:AR):Hw:={H with bX:=H.bX.set k A}
def Vp (H:Hw)(x size cls:Int):Hw:={H with live:=dB H.live x (x,size,cls,XN H.bX x)}
def QD (H:Hw)(t k:Nat)(xs:List Int):Hw:=H.dV t λh=>{h with bP:=h.bP++[(k,xs)]}
def jX (H:Hw)(t:Nat):Option Ph:=match H.bQ[t]? with
 | some h=>if h.bP=[]then none else some .back
 | none=>none
def ZE (bX:List AR)(xs:List Int)(a:Nat):List Int:=xs.filter λx=>XN bX x==(a:Int)
def KN (H:Hw)(k:Nat)(part:Nat->List Int)(l:List Nat):Hw:=l.foldl (λH a=>match H.bX[a]? with
 | some A=>if part a=[]then H else H.cC a (Zu A (k:Int) (part a))
 | none=>H) H
def Hx (H:Hw)(own k:Nat)(xs:List Int):Hw:=match H.bX[own]? with
 | some A=>if(ZE H.bX xs own).length=xs.length/\KQ A (k:Int) xs=true then H.cC own (QV A (k:Int) xs)
  else KN (if(ZE H.bX xs own).length=xs.length then H.cC own (QV A (k:Int) xs)else H) k (ZE H.bX xs) (List.range H.bX.length)
 | none=>H
abbrev sO:=Hw×Option Ph×Int×Int
def lB (H:Hw)(x:Int):Int:=if 0<=XN H.bX x then(match H.bX[(XN H.bX x).toNat]? with
 | some A=>(match UC A x with
  | some (k,y)=>if 0<=k/\(y:Int)=x then 9 else 8
  | none=>8)
 | none=>8)else 8
def UK (H:Hw)(t:Nat)(x:Int):sO:=match bW H.live x with
 | none=>(H,none,0,lB H x)
 | some b=>if b.2.2.1<0 then({H with live:=cS H.live x},some (.dC (x/256) b.2.2.2),0,0)
  else(QD {H with live:=cS H.live x} t b.2.2.1.toNat [x],some (.put b.2.2.1.toNat x),0,0)
def Hw.jT (H:Hw)(t:Nat):Th:=H.bQ.getD t ⟨[],[],none⟩
def Hw.cls (H:Hw)(k:Nat):bZ:=H.tb.getD k ⟨8,1,1⟩
def Hw.dZ (H:Hw)(t:Nat):AR:=H.bX.getD (H.own t) ⟨0,0,[],λ_=>false,[],λ_=>0,[],[],[]⟩
def Th.li (h:Th)(k:Nat):Li:=h.ls.getD k ij
def Th.gO (h:Th)(k:Nat)(l:Li):Th:={h with ls:=h.ls.set k l}
def ir (H:Hw)(t k:Nat)(x:Int):Hw:=
 let c:=H.cls k
 let l:=(H.jT t).li k
 let H1:=H.dV t λh=>h.gO k (dK c x l).2
 let H2:=if(dK c x l).1=[]then H1 else QD H1 t k (dK c x l).1
 let H3:=H2.dV t λh=>{h with bP:=h.bP.drop 1}
 if H.cf.dA<QQ H.tb (H3.jT t).ls then H3.dV t λh=>{h with ls:=QT KE H.tb h.ls,bP:=h.bP++Q0 KE H.tb h.ls}else H3
def Wt (H:Hw)(t:Nat):Ph->sO
 | .take k=>match QY (H.cls k) ((H.jT t).li k)with
  | (some x,l)=>(Vp (H.dV t λh=>h.gO k l) x ((H.cls k).size:Int) (k:Int),none,x,0)
  | (none,l)=>(H.dV t λh=>h.gO k l,some (.cH k (GU (H.cls k) l)),0,0)
 | .cH k w=>if w=(H.cls k).batch then(if ZY (H.dZ t) (k:Int)=0 then(QD (H.cC (H.own t) (Zx (H.dZ t) (k:Int))) t k (Yp (H.dZ t) (k:Int)),some .fill,0,0)else(H,some (.cJ k w),0,0))else(H,some (.cJ k w),0,0)
 | .cJ k w=>
  let H1:=H.cC (H.own t) (Yr (H.dZ t) (k:Int) (w:Int))
  if Ya (H.dZ t) (k:Int) (w:Int)=[]then(H1,some (.grow k w),0,0)else(QD H1 t k ((Ya (H.dZ t) (k:Int) (w:Int)).map λ(x:Nat)=>(x:Int)),some .fill,0,0)
 | .grow k w=>
  let r:=cL (H.dZ t) H.sp (k:Int)
  let H1:={H.cC (H.own t) r.1 with sp:=r.2}
  if KC (H.dZ t) H.sp (k:Int)=0 then(H1,some (.cJ k w),0,0)else(H1,none,0,KC (H.dZ t) H.sp (k:Int))
 | .fill=>match (H.jT t).bP with
  | (k,x::xs)::_=>(Vp (H.dV t λh=>{ls:=h.ls.set k (eA xs.reverse (h.li k)),bP:=[],ph:=h.ph}) x ((H.cls k).size:Int) (k:Int),none,x,0)
  | _=>(H,none,0,0)
 | .eD m=>
  let r:=cA (H.dZ t) H.sp (m:Int) 1
  let H1:={H.cC (H.own t) r.1 with sp:=r.2}
  let x:Int:=((ZW (H.dZ t) H.sp (m:Int) 1*256:Nat):Int)
  if Qi (H.dZ t) H.sp (m:Int) 1=0 then(Vp H1 x ((m*256:Nat):Int) (-1),none,x,0)else(H1,none,0,Qi (H.dZ t) H.sp (m:Int) 1)
 | .find x=>UK H t x
 | .put k x=>(ir H t k x,jX (ir H t k x) t,0,0)
 | .back=>match (H.jT t).bP with
  | (k,xs)::r=>
   let H1:=Hx (H.dV t λh=>{h with bP:=r}) (H.own t) k xs
   (H1,jX H1 t,0,0)
  | []=>(H,none,0,0)
 | .dC s a=>(match H.bX[a.toNat]? with
  | some A=>H.cC a.toNat (Qr A s)
  | none=>H,none,0,0)
 | .drain=>
  let H1:=H.dV t λh=>{h with ls:=QT ZG H.tb h.ls,bP:=Q0 ZG H.tb h.ls}
  (H1,jX H1 t,0,0)
end Go.Ar