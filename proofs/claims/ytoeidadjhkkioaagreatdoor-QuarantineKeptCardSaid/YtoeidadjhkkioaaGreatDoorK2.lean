/- Texts joined. -/
import Derived.Deep.Slices
import Derived.Deep.Fields
import Derived.ChangeSame
import Derived.Lib.SmallJoins
import Derived.Below
import Derived.Test.YtoeidadjhkkioaaGreatDoorProg
import Derived.KernelRfl
import Derived.RangeFuncLeaves
import Derived.RangeFuncRecord
import Derived.RangeFuncSeq
import Derived.RangeFuncCalls
import Derived.OrdersIn
import Derived.TacticsIn
import Derived.RangeFuncIn
import Derived.Shelf.SlIterI.Nil
import Derived.Shelf.SortM.Plain
import Derived.Shelf.SortM.SortNone
import Derived.Ground.GgzProg
import Derived.Ground.SlgmProg
import Derived.Shelf.SlMaps.Clone
import Derived.Ground.SlmcProg
import Derived.Test.YtoeidadjhkkioaaGreatDoorK1
set_option linter.unusedVariables false
set_option linter.unusedSimpArgs false
namespace Go.Vc
open Go
abbrev Rg:=Nat->Prop
def dP (P:Hp->Rg->Prop):Prop:=∀U σ' (F G:Rg),P U F->U.size<=σ'.size->(∀b,b<U.size->F b->G b/\σ'[b]?=U[b]?)->P σ' G
def Grow (F:Rg)(U:Hp):Rg:=λb=>F b\/U.size<=b
theorem dP.mono {P:Hp->Rg->Prop}(hl:dP P){U:Hp}{F G:Rg}(h:P U F)(hs:∀b,b<U.size->F b->G b):P U G:=hl U U F G h (zD _) λb d a=>⟨hs b d a,rfl⟩
theorem dP.bT {P:Hp->Rg->Prop}(hl:dP P){U σ':Hp}{F T:Rg}(h:P U F)(e:Ext T U σ')(hn:∀b,b<U.size->F b->¬T b):P σ' F:=
 hl U σ' F F h e.1 λb d a=>⟨a,e.2 b d (hn b d a)⟩
theorem dP.bP {P:Hp->Rg->Prop}(hl:dP P){U σ':Hp}{F:Rg}(h:P U F)(e:aF U σ'):P σ' F:=hl.bT h e λ_ _ _=>id
def Sep {L:Type}(C:L->Hp->Rg->Prop)(U:Hp)(F:Rg):Prop:=∃ρ:Nat->L,∀i,C i U λb=>F b/\ρ b=i
variable {L:Type}{C:L->Hp->Rg->Prop}{U σ':Hp}{F:Rg}
theorem Sep.loc (hC:∀i,dP (C i)):dP (Sep C):=by
 rintro U m F G ⟨ρ,h⟩ j d;exact⟨ρ,λi=>hC i _ _ _ _ (h i) j λb g a=>⟨⟨(d b g a.1).1,a.2⟩,(d b g a.1).2⟩⟩
theorem Sep.get (h:Sep C U F)(i:L):∃G:Rg,(∀b,G b->F b)/\C i U G:=by
 obtain⟨ρ,h⟩:=h;exact⟨_,λb a=>a.1,h i⟩
open Classical in
theorem Sep.step (hC:∀i,dP (C i))(h:Sep C U F)(i:L):∃G:Rg,(∀b,G b->F b)/\C i U G/\∀(σ':Hp) (C':L->Hp->Rg->Prop) (G':Rg),
 (∀j,j≠i->C' j=C j)->Ext G U σ'->(∀b,G' b->G b\/U.size<=b)->C' i σ' G'->dP (C' i)->Sep C' σ' λb=>F b/\b<U.size/\¬G b\/G' b:=by
 obtain⟨ρ,h⟩:=h;refine⟨_,λb d=>d.1,h i,λσ' C' G' r e u hi s=>⟨λb=>if G' b then i else ρ b,λj=>?_⟩⟩
 by_cases hji:j=i
 .subst hji;exact s.mono hi λb _ d=>⟨.inr d,zC d⟩
 .rw[r j hji];refine hC j _ _ _ _ (h j) e.1 λb d m=>?_;have a:¬(F b/\ρ b=i):=λp=>hji (m.2.symm.trans p.2);have g:¬G' b:=λp=>by
   rcases u b p with h1|h1
   .exact a h1
   .omega
  exact⟨⟨.inl ⟨m.1,d,a⟩,(zB g).trans m.2⟩,e.2 b d a⟩
open Classical in
theorem Sep.pf (hC:∀i,dP (C i))(h:Sep C U F)(i j:L)(hij:i≠j):∃G H:Rg,(∀b,G b->F b)/\(∀b,H b->F b)/\(∀b,G b->¬H b)/\C i U G/\C j U H/\∀(σ':Hp) (C':L->Hp->Rg->Prop) (G' H':Rg),
 (∀k,k≠i->k≠j->C' k=C k)->Ext (λb=>G b\/H b) U σ'->(∀b,G' b->(G b\/H b)\/U.size<=b)->(∀b,H' b->(G b\/H b)\/U.size<=b)->(∀b,G' b->¬H' b)->C' i σ' G'->C' j σ' H'->(∀k,dP (C' k)) →
 Sep C' σ' λb=>F b/\b<U.size/\¬(G b\/H b)\/G' b\/H' b:=by
 obtain⟨ρ,h⟩:=h;refine⟨_,_,λb a=>a.1,λb a=>a.1,λb g y=>hij (g.2.symm.trans y.2),h i,h j,λσ' C' G' H' A e x z hd hi w u=>⟨λb=>if G' b then i else if H' b then j else ρ b,λk=>?_⟩⟩
 by_cases hki:k=i
 .subst hki;exact(u _).mono hi λb _ a=>⟨.inr (.inl a),zC a⟩
 by_cases hkj:k=j
 .subst hkj;exact(u _).mono w λb _ a=>⟨.inr (.inr a),by show(if G' b then i else if H' b then k else ρ b)=k;rw[zB λd=>hd b d a,zC a]⟩
 .rw[A k hki hkj];refine hC k _ _ _ _ (h k) e.1 λb a s=>?_;have r:¬((F b/\ρ b=i)\/F b/\ρ b=j):=by
   rintro(d|d)
   .exact hki (s.2.symm.trans d.2)
   .exact hkj (s.2.symm.trans d.2)
  have m:¬G' b:=λd=>by
   rcases x b d with g|g
   .exact r g
   .omega
  have p:¬H' b:=λd=>by
   rcases z b d with g|g
   .exact r g
   .omega
  exact⟨⟨.inl ⟨s.1,a,r⟩,by show(if G' b then i else if H' b then j else ρ b)=k;rw[zB m,zB p];exact s.2⟩,e.2 b a r⟩
def iB (p:Nat)(cs:List Value):Hp->Rg->Prop:=λU F=>F p/\bY U p cs
theorem iB.loc (p:Nat)(cs:List Value):dP (iB p cs):=λU g F G h d a=>by
 obtain⟨e,b⟩:=h.2;have:=a p h.2.lt h.1;exact⟨this.1,e,this.2.trans b⟩
def jR (r:Nat)(k:IntKind)(c:CK)(l:List (Int×c.T)):Hp->Rg->Prop:=λU F=>F r/\dM U r k c l
theorem jR.loc (r:Nat)(k:IntKind)(c:CK)(l:List (Int×c.T)):dP (jR r k c l):=λU m F G h j i=>by
 have:=i r h.2.lt h.1;obtain⟨d,b,g,a⟩:=h.2;exact⟨this.1,d,b,this.2.trans g,a⟩
def yO:Hp->Rg->Prop:=λ_ _=>True
theorem yO.loc:dP yO:=λ_ _ _ _ _ _ _=>trivial
def yw (s:Sl)(sz:Nat)(xs:List Value):Hp->Rg->Prop:=λU F=>Own F U s sz xs
theorem yw.loc (s:Sl)(sz:Nat)(xs:List Value):dP (yw s sz xs):=λU g F G h d a=>by
 refine⟨h.1,h.2.imp id ?_⟩;rintro⟨b,cs,hq,ha,⟨e,he⟩,r⟩;have:=a b (bY.lt ⟨e,he⟩) hq;exact⟨b,cs,this.1,ha,⟨e,this.2.trans he⟩,r⟩
def bU (s:Sl)(sz:Nat)(xs:List Value):Hp->Rg->Prop:=λh F=>xs.length=s.len*sz/\(s.len=0/\s.cap=0\/∃b cs,F b/\s.a=some ⟨b,0,none⟩/\bY h b cs/\s.len<=s.cap/\cs.length=s.cap*sz/\cs.take xs.length=xs)
theorem bU.loc (s:Sl)(sz:Nat)(xs:List Value):dP (bU s sz xs):=λU g F G h d a=>by
 refine⟨h.1,h.2.imp id ?_⟩;rintro⟨b,cs,hq,ha,⟨e,he⟩,r⟩;have:=a b (bY.lt ⟨e,he⟩) hq;exact⟨b,cs,this.1,ha,⟨e,this.2.trans he⟩,r⟩
theorem _root_.aI{s n xs}:dP (bU s n xs):=bU.loc _ _ _
theorem bU.nil (h:Hp)(F:Rg)(sz:Nat)(a:Option Addr):bU ⟨a,0,0⟩ sz [] h F:=⟨by simp,.inl ⟨rfl,rfl⟩⟩
theorem bU.rd {h:Hp}{F:Rg}{s:Sl}{sz:Nat}{xs:List Value}(ho:bU s sz xs h F):Rd h s.a xs:=by
 rcases ho.2 with⟨hl,_⟩|⟨b,cs,_,ha,hb,_,_,ht⟩
 .have:=ho.1;rw[hl]at this;simp at this;subst this;cases s.a<;>simp[Rd]
 .rw[ha];intro j v hv;rw[add_lit,hb.cell,zH];rw[←ht,zm]at hv;split at hv
  .exact hv
  .cases hv
theorem bU.app {F:Rg}{h:Hp}{s x:Sl}{sz bytes e:Nat}{zs xs ys:List Value}{K:Sl->Hp->Prop}(ho:bU s sz xs h F)(hz:zs.length=sz)
 (hy:ys.length=x.len*sz) (hr:Rd h x.a ys) (h1:∀v∈ys,dY v=true) (hb:(s.len+x.len)*bytes<=2^46) (hc:s.len+x.len<=2^62)
 (hx:0<x.len) (hK:∀s' h',s'.len=s.len+x.len->Ext F h h'->bU s' sz (xs++ys) h' (Grow F h)->K s' h'):App s sz bytes e zs x h K:=by
 refine⟨xs,ys,ho.1,hy,ho.rd,hr,h1,hb,hc,λg=>?_,λp c j=>?_⟩
 .rcases ho.2 with⟨hl,hcap⟩|⟨b,cs,hQ,ha,hk,hle,hcl,ht⟩
  .omega
  .rw[ha];simp only;rw[add_lit];have r:(s.len+x.len)*sz<=s.cap*sz:=mD _ g;rw[zo]at r;have d:=ho.1;refine V9 hk O λh' i m=>hK _ h' rfl (Ext.eW i hQ) ⟨?_,.inr ⟨b,_,.inl hQ,rfl,m,g,?_,?_⟩⟩
   .simp[d,hy,zo]
   .simp;omega
   .rw[zM,d];rw[zH,kr,←d];rw[ht,pA aA,lP aA]
 .refine hK _ _ rfl (Ext.push _ _ _) ⟨by simp[ho.1,hy,zo],.inr ⟨h.size,xs++ys++(List.replicate (c-(s.len+x.len)) zs).flatten,.inr (zD _),rfl,⟨e,by simp⟩,j,?_,?_⟩⟩
  .simp only[zM,wV,wB,yl,ho.1,hy,hz,←zo]
   congr 1;omega
  .rw[pA aA,lP aA]
theorem bU.st {F:Rg}{h:Hp}{s:Sl}{sz:Nat}{xs:List Value}(ho:bU s sz xs h F){j:Nat}(hj:j<xs.length){v:Value}{K:aP}{a:Addr}(ha:∀b,s.a=some ⟨b,0,none⟩->a=⟨b,j,none⟩)
 (hK:∀h',Ext F h h'->bU s sz (xs.set j v) h' F->K h'):dG a v h K:=by
 rcases ho.2 with⟨hl,_⟩|⟨b,cs,hq,hsa,hb,hle,hcl,ht⟩
 .have:=ho.1;rw[hl]at this;simp at this;subst this;simp at hj
 .rw[ha b hsa];have d:j<cs.length:=by
   have:(cs.take xs.length).length=xs.length:=by rw[ht]
   rw[zY]at this;omega
  refine⟨by rw[hb.cell,cW d];rfl,hb.oE,hK _ (Ext.j3 (F:=F) hq) ⟨by simp[ho.1],.inr ⟨b,_,hq,hsa,hb.set v,hle,by simp[hcl],?_⟩⟩⟩;rw[pH,List.take_set,ht]
def cV (s:Sl)(sz:Nat)(xs:List Value):Hp->Rg->Prop:=λU F=>xs.length=s.len*sz/\(xs=[]\/∃b o cs,F b/\s.a=some ⟨b,o,none⟩/\mN U b cs/\∀j,j<xs.length->cs[o+j]?=xs[j]?)
theorem cV.loc (s:Sl)(sz:Nat)(xs:List Value):dP (cV s sz xs):=λU g F G h d a=>by
 refine⟨h.1,h.2.imp id ?_⟩;rintro⟨b,o,cs,hq,ha,⟨e,z,he⟩,r⟩;have:=a b (mN.lt ⟨e,z,he⟩) hq;exact⟨b,o,cs,this.1,ha,⟨e,z,this.2.trans he⟩,r⟩
theorem _root_.aH{s n xs}:dP (cV s n xs):=cV.loc _ _ _
theorem bU.fY {Q:Rg}{h:Hp}{s:Sl}{sz:Nat}{xs:List Value}(ho:bU s sz xs h Q):cV s sz xs h Q:=by
 refine⟨ho.1,?_⟩;rcases ho.2 with⟨hl,_⟩|⟨b,cs,hq,ha,hb,_,_,ht⟩
 .left;have:=ho.1;rw[hl]at this;simpa using this
 .refine .inr ⟨b,0,cs,hq,ha,hb.q,λj a=>?_⟩;rw[←ht,zm,zH,zC a]
theorem cV.cell {s:Sl}{sz:Nat}{xs:List Value}(h:cV s sz xs U F){j:Nat}{v:Value}(hv:xs[j]?=some v):∃b o,s.a=some ⟨b,o,none⟩/\Vc.cell U ⟨b,o+j,none⟩=some v:=by
 have d:=(cY.1 hv).1;rcases h.2 with h0|⟨b,o,cs,_,ha,hb,hc⟩
 .subst h0;simp at d
 .exact⟨b,o,ha,by rw[hb.cell,hc j d];exact hv⟩
theorem cV.mf {s:Sl}{k:IntKind}{xs:List Int}(h:cV s 1 (xs.map (Value.int k)) U F){i:Nat}{x:Int}(hx:xs[i]?=some x){K:Int->Prop}(hK:K x):Ix s.a s.len (i:Int) 1 λa=>gL k a U K:=by
 have hi:=(cY.1 hx).1;obtain⟨b,o,d,m⟩:=h.cell (j:=i) (v:=.int k x) (by simp[hx]);have g:=h.1;simp at g;rw[d];refine ix O O ?_;rw[add_lit];exact oI (by simpa using m) hK
theorem cV.rd {s:Sl}{sz:Nat}{xs:List Value}(h:cV s sz xs U F):Rd U s.a xs:=by
 cases ha:s.a with
 | none=>
  rcases h.2 with h0|⟨b,o,cs,_,d,_⟩
  .exact h0
  .rw[ha]at d;cases d
 | some a=>
  intro j v hv;obtain⟨b,o,d,g⟩:=h.cell hv;rw[ha]at d;cases d;rw[add_lit];exact g
end Go.Vc
namespace Go.Vc
open Go Go.ChangeShapes Go.WideShapes Go.Deep Go.RowKit
def Mc (U:Hp):Bool->Hp->Prop:=λb σ'=>b=true/\aF U σ'
theorem Si {P:Program}{f:Nat}{args:Array Value}{w:World}(h:Wg P f args [.one .b] w.heap (Mc w.heap)):Calls P f args w λe w'=>e=.returned (.bool true)/\Below w.heap.size w w':=by
 refine(h w rfl).mono ?_;rintro e w' ⟨a,vs,rfl,g⟩
 match vs,g with
 | [v],g=>
  obtain⟨x,rfl,m,i⟩:=g;have d:x=true:=m;subst d;exact⟨rfl,⟨a.1,a.2.1,a.2.2.1,a.2.2.2,λk j=>i.2 k j id⟩⟩
def iu (h:Hp)(l:Sl)(xs:List (Int×Int×Int)):Prop:=l.len=xs.length/\∀i x y z,xs[i]?=some (x,y,z)->∃b o,l.a=some ⟨b,o,none⟩/\b<h.size ∧
 cell h ⟨b,o+i*3,none⟩=some (.int .i64 x)/\cell h ⟨b,o+i*3+1,none⟩=some (.int .i64 y)/\cell h ⟨b,o+i*3+2,none⟩=some (.int .i64 z)
theorem Fp {h:Hp}{a:Addr}{v:Value}(hc:cell h a=some v):a.block<h.size/\a.spot=none:=by
 unfold cell at hc;split at hc
 .rename_i heq;refine⟨(jT.1 heq).1,?_⟩;cases hs:a.spot with
  | none=>rfl
  | some s=>rw[hs]at hc;simp at hc
 .cases hc
end Go.Vc
namespace Go.Vc
open Go
theorem eA {k:IntKind}{b o i:Nat}{h:Hp}{x:Int}{K:Int->Prop}(hc:cell h ⟨b,o+i,none⟩=some (.int k x))(hK:K x):gL k (Addr.add ⟨b,o,none⟩ i) h K:=by
 rw[add_lit];exact oI hc hK
theorem cT {e:Int}{m:Nat}{K:Int->Prop}(he:e=(m:Int))(hm:m<=4611686018427387904)(hK:K (m:Int)):Ar .i64 e K:=by
 rw[he];exact ar O O hK
theorem LL {k:Nat}(h:k<=62):min ((k:Int).toNat) IntKind.i64.bits=k:=by
 have:IntKind.i64.bits=64:=rfl;rw[this];omega
theorem vO {k:IntKind}{e:Int}{K:Int->Prop}(hK:K (k.wrap e)):Ar k e K:=hK
variable {U:Hp}{b o i j:Nat}{cs:List Value}
theorem bY.rI (hb:bY U b cs){k:IntKind}{x:Int}{K:Int->Prop}(hc:cs[o+i]?=some (.int k x))(hK:K x):gL k (Addr.add ⟨b,o,none⟩ i) U K:=by
 rw[add_lit];exact oI (hb.cell.trans hc) hK
theorem bY.rB (hb:bY U b cs){x:Bool}{K:Bool->Prop}(hc:cs[o+i]?=some (.bool x))(hK:K x):lZ (Addr.add ⟨b,o,none⟩ i) U K:=by
 rw[add_lit];exact nJ (hb.cell.trans hc) hK
theorem bY.rP (hb:bY U b cs){x:Option Addr}{K:Option Addr->Prop}(hc:cs[o+i]?=some (.pointer x))(hK:K x):fZ (Addr.add ⟨b,o,none⟩ i) U K:=by
 rw[add_lit];exact vN (hb.cell.trans hc) hK
theorem bY.rM (hb:bY U b cs){x:Option Nat}{K:Option Nat->Prop}(hc:cs[o+i]?=some (.map x))(hK:K x):lO (Addr.add ⟨b,o,none⟩ i) U K:=by
 rw[add_lit];exact Fu (hb.cell.trans hc) hK
theorem bY.rS (hb:bY U b cs){a:Option Addr}{n c:Nat}{K:Sl->Prop}(hc:cs[o+i]?=some (.slice a n c))(hK:K ⟨a,n,c⟩):jF (Addr.add ⟨b,o,none⟩ i) U K:=by
 rw[add_lit];exact oL (hb.cell.trans hc) hK
theorem bY.fE (hb:bY U b cs){k:IntKind}{x:Int}{K:Int->Prop}(hc:cs[o+i+j]?=some (.int k x))(hK:K x):gL k (Addr.add (Addr.add ⟨b,o,none⟩ i) j) U K:=by
 rw[add_lit,add_lit];exact oI (hb.cell.trans hc) hK
theorem bY.uo (hb:bY U b cs){k:IntKind}{x:Int}{K:Int->Prop}(hc:cs[o]?=some (.int k x))(hK:K x):gL k ⟨b,o,none⟩ U K:=oI (hb.cell.trans hc) hK
theorem bY.qW (hb:bY U b cs){x:Option Addr}{K:Option Addr->Prop}(hc:cs[o]?=some (.pointer x))(hK:K x):fZ ⟨b,o,none⟩ U K:=vN (hb.cell.trans hc) hK
theorem bY.wu (hb:bY U b cs){a:Option Addr}{n c:Nat}{K:Sl->Prop}(hc:cs[o]?=some (.slice a n c))(hK:K ⟨a,n,c⟩):jF ⟨b,o,none⟩ U K:=oL (hb.cell.trans hc) hK
theorem bY.s1 (hb:bY U b cs){v:Value}(ho:o+i<cs.length){K:aP}(hK:∀h',Ka U h' b->bY h' b (cs.set (o+i) v)->K h'):dG (Addr.add ⟨b,o,none⟩ i) v U K:=by
 rw[add_lit];refine⟨?_,hb.oE,hK _ ⟨VH _ _ _,λc a=>Ui a⟩ (hb.set v)⟩;rw[hb.cell,cW ho];rfl
theorem bY.s0 (hb:bY U b cs){v:Value}(ho:o<cs.length){K:aP}(hK:∀h',Ka U h' b->bY h' b (cs.set o v)->K h'):dG ⟨b,o,none⟩ v U K:=by
 refine⟨?_,hb.oE,hK _ ⟨VH _ _ _,λc a=>Ui a⟩ (hb.set v)⟩;rw[hb.cell,cW ho];rfl
theorem nw {e:Nat}{K:Addr->Hp->Prop}(hK:∀h',h'.size=U.size+1->aF U h'->bY h' U.size cs->K ⟨U.size,0,none⟩ h'):Nw (.cells cs.toArray e (0,0)) U K:=
 hK _ aA (Ext.push _ _ _) (bY.push _ _ _)
theorem ub {K:Addr->Hp->Prop}(hK:∀h',h'.size=U.size+1->aF U h'->(∀(k:IntKind) (c:CK),dM h' U.size k c [])->K ⟨U.size,0,none⟩ h'):Nw (.map #[] 0) U K:=
 hK _ aA (Ext.push _ _ _) λk c=>dM.push _ _ _
theorem mk {n bytes e:Nat}{zs:List Value}{K:Sl->Hp->Prop}(h1:bytes*n<=1073741824)(h2:n<=1073741824)
 (hK:∀h',h'.size=U.size+1->aF U h'->bY h' U.size (List.replicate n zs).flatten->K ⟨some ⟨U.size,0,none⟩,n,n⟩ h'):Mk (n:Int) (n:Int) bytes e zs U K:=by
 refine⟨O,xF _,?_,O,?_⟩
 .have:((bytes:Int)*(n:Int))=((bytes*n:Nat):Int):=by simp
  rw[this];omega
 .simp only[dH];exact nw hK
theorem jv {s:Sl}{sz lo hi mx:Nat}{K:Sl->Prop}(h1:lo<=hi)(h2:hi<=mx)(h3:mx<=s.cap)(hK:K ⟨if mx=lo then s.a else s.a.map (·.add (lo*sz)),hi-lo,mx-lo⟩):fI s sz (lo:Int) (hi:Int) (mx:Int) K:=
 ⟨O,O,O,O,by simpa using hK⟩
theorem mg (a b:Nat):(((a:Nat):Int)==((b:Nat):Int))=(a==b):=by rw[kZ];simp;omega
theorem rX (a b:Nat):(((a:Nat):Int) != ((b:Nat):Int))=(a != b):=by rw[bne,bne,mg]
theorem ye (a:Nat):(((a:Nat):Int)==0)=(a==0):=mg a 0
theorem No (a:Nat):(((a:Nat):Int) != 0)=(a != 0):=rX a 0
def ints (l:List Nat):List Value:=l.map λ(x:Nat)=>Value.int .i64 (x:Int)
theorem Kq (l:List Nat):(ints l).length=l.length:=by simp[ints]
theorem OU {l:List Nat}{i x:Nat}(h:l[i]?=some x):(ints l)[i]?=some (.int .i64 (x:Int)):=by simp[ints,h]
theorem HD (l m:List Nat):ints (l++m)=ints l++ints m:=by simp[ints]
theorem cV.sN {s:Sl}{F:Rg}{xs:List Nat}(h:cV s 1 (ints xs) U F){i x:Nat}(hx:xs[i]?=some x){K:Int->Prop}(hK:K (x:Int)):Ix s.a s.len (i:Int) 1 λa=>gL .i64 a U K:=by
 have hi:=(cY.1 hx).1;obtain⟨b,o,d,j⟩:=h.cell (OU hx);have g:=h.1;rw[Kq]at g;rw[d];refine ix O O ?_;rw[add_lit];exact oI (by simpa using j) hK
theorem cV.oY {s:Sl}{F:Rg}{xs:List Nat}(h:cV s 1 (ints xs) U F):s.len=xs.length:=by
 have:=h.1;rw[Kq]at this;omega
theorem cV.nil (F:Rg)(a:Option Addr)(c sz:Nat):cV ⟨a,0,c⟩ sz [] U F:=⟨by simp,.inl rfl⟩
theorem bY.fY {s:Sl}{sz:Nat}{xs:List Value}(hb:bY U b cs)(ha:s.a=some ⟨b,o,none⟩)(hl:xs.length=s.len*sz)(hc:∀j,j<xs.length->cs[o+j]?=xs[j]?):cV s sz xs U (· = b):=
 ⟨hl,.inr ⟨b,o,cs,rfl,ha,hb.q,hc⟩⟩
theorem cV.any {s:Sl}{sz:Nat}{xs:List Value}{F:Rg}(h:cV s sz xs U F):cV s sz xs U λ_=>True:=(cV.loc s sz xs).mono h λ_ _ _=>trivial
theorem Ms {a xa:Option Addr}{xc sz bytes e:Nat}{zs:List Value}{K:Sl->Hp->Prop}(hK:K ⟨a,0,0⟩ U):App ⟨a,0,0⟩ sz bytes e zs ⟨xa,0,xc⟩ U K:=by
 refine⟨[],[],by simp,by simp,by cases a<;>simp[Rd],by cases xa<;>simp[Rd],by simp,by simp,by simp,λ_=>?_,λh=>absurd (zD 0) h⟩
 cases a
 .exact hK
 .exact hK
theorem bU.push {F:Rg}{s:Sl}{sz bytes e t:Nat}{zs xs vs:List Value}{K:Sl->Hp->Prop}(ho:bU s sz xs U F)(hF:∀b,U.size<=b->F b)(hz:zs.length=sz)(hv:vs.length=sz)(h1:∀v∈vs,dY v=true)
 (hb:bytes<=1000) (hl:s.len<=1000000) (hK:∀s' h',s'.len=s.len+1->Ext F U h'->bU s' sz (xs++vs) h' F->K s' h') :
 Nw (.cells vs.toArray t (0,0)) U λn v=>App s sz bytes e zs ⟨some n,1,1⟩ v K:=by
 refine nw λv m e1 a=>?_;have d:=(bU.loc s sz xs).bP ho e1;refine d.app (ys:=vs) hz (by simp[hv]) ?_ h1 ?_ ?_ nc λs' h' i r g=>hK s' h' i (e1.to.trans r) ?_
 .intro j u hu;rw[add_lit,zH,a.cell];exact hu
 .simp only;have:(s.len+1)*bytes<=1000001*1000:=mC O hb;omega
 .simp only;omega
 .exact aI.mono g λb _ p=>by
   rcases p with h|h
   .exact h
   .exact hF b O
theorem bU.oY {F:Rg}{s:Sl}{xs:List Nat}(h:bU s 1 (ints xs) U F):s.len=xs.length:=by
 have:=h.1;rw[Kq]at this;omega
theorem CY {F:Rg}{s:Sl}{sz bytes e:Nat}{zs vs:List Value}{R:Sl->Hp->Prop}(h:cV s sz vs U F)(hpos:0<sz)(hz:zs.length=sz)(h1:∀v∈vs,dY v=true)(hb:bytes<=1000)(hl:s.len<=1000000)
 (hR:∀s' σ',s'.len=s.len->aF U σ'->bU s' sz vs σ' (λb=>U.size<=b)->R s' σ') :
 If s.a.isNone (R ⟨none,0,0⟩ U) (Nw (.cells #[] e (0,0)) U λn v=>App ⟨some n,0,0⟩ sz bytes e zs s v λt v1=>R t v1):=by
 have d:=h.1;refine cP (λp=>?_) λp=>?_
 .have r:vs=[]:=by
   rcases h.2 with g|⟨b,o,cs,_,ha,_⟩
   .exact g
   .rw[ha]at p;cases p
  subst r;have g:s.len=0:=by
   have u:s.len*sz=0:=by simpa using d.symm
   rcases wF.1 u with h|h
   .exact h
   .omega
  exact hR _ _ (by simp[g]) (Ext.refl _ _) (bU.nil _ _ _ _)
 .refine nw (cs:=[]) λv B e1 A=>?_;have w:=(cV.loc s sz vs).bP h e1;rcases CF s.len with g|g
  .obtain⟨a,n,c⟩:=s;simp only at g;subst g;have:vs=[]:=by simpa using d
   subst this;exact Ms (hR _ _ rfl e1 (bU.nil _ _ _ _))
  .refine(bU.nil v (λb=>U.size<=b) sz (some ⟨U.size,0,none⟩)).app (ys:=vs) hz d w.rd h1 ?_ ?_ g λs' x m z j=>hR s' x (by simpa using m) ?_ ?_
   .simp only[zH];have:s.len*bytes<=1000000*1000:=mC hl hb;omega
   .simp only;omega
   .exact Ext.fresh e1 z λi hi=>hi
   .rw[tg]at j;exact aI.mono j λb _ y=>by
     rcases y with h|h
     .exact h
     .omega
def Cut (F:Rg)(U:Hp):Rg:=λb=>F b/\b<U.size
theorem dP.cut {P:Hp->Rg->Prop}(hl:dP P){F:Rg}(h:P U F):P U (Cut F U):=hl.mono h λb d a=>⟨a,d⟩
theorem Ext.cut {F:Rg}{σ':Hp}(e:Ext (Cut F U) U σ'):Ext F U σ':=⟨e.1,λb d a=>e.2 b d λg=>a g.1⟩
theorem Ext.sub {F G:Rg}{a b:Hp}(e:Ext F a b)(h:∀i,F i->G i):Ext G a b:=e.mono λi _ d=>h i d
theorem Ka.ext {h h':Hp}{r:Nat}(ho:Ka h h' r):Ext (· = r) h h':=Ext.eW ho rfl
theorem Ext.jC {F:Rg}{a b c:Hp}(e:Ext F a b)(k:Ext (Grow F a) b c):Ext F a c:=
 ⟨kD e.1 k.1,λi hi d=>(k.2 i (wH hi e.1) λg=>by rcases g with h|h;exact d h;omega).trans (e.2 i hi d)⟩
theorem Ext.dX {F G:Rg}{a b c:Hp}(e:Ext F a b)(k:Ext G b c)(h:∀i,G i->F i\/a.size<=i):Ext F a c:=e.jC (k.sub h)
theorem Gn {P:Program}{f:Nat}{first caps:Array Value}{args:List Value}{all:Array Value}{rs:List SK}{R:eR (fA rs)}(hok:Ut P f=true)(he:first++args.toArray++caps=all)
 (hc:Wg P f all rs U R):VP P ⟨f,first,caps⟩ args rs U R:=⟨hok,by unfold Fg;simp only;rw[he];exact hc⟩
theorem KE {h h':Hp}{F:Nat->Prop}(e:Ext F h h'){b o:Nat}(hb:b<h.size)(hF:¬F b):cell h' ⟨b,o,none⟩=cell h ⟨b,o,none⟩:=by
 unfold cell;rw[e.2 b hb hF]
theorem Pg {h h':Hp}{l:Sl}{xs:List (Int×Int×Int)}{F:Nat->Prop}(ha:iu h l xs)(e:Ext F h h')(hF:∀b,F b->∀o,l.a≠some ⟨b,o,none⟩):iu h' l xs:=by
 refine⟨ha.1,λi x y z s=>?_⟩;obtain⟨b,o,j,d,p,u,m⟩:=ha.2 i x y z s;have g:¬F b:=λr=>hF b r o j;exact⟨b,o,j,wH d e.1,by rw[KE e d g];exact p,by rw[KE e d g];exact u,by rw[KE e d g];exact m⟩
theorem Qv {h h':Hp}{l:Sl}{xs:List (Int×Int×Int)}(ha:iu h l xs)(e:aF h h'):iu h' l xs:=Pg ha e λ_ h=>h.elim
theorem Ax {h:Hp}{l:Sl}{xs:List (Int×Int×Int)}(ha:iu h l xs){i:Nat}{x y z:Int}(hx:xs[i]?=some (x,y,z)){K:Int->Int->Int->Prop}(hK:K x y z) :
 Ix l.a l.len (i:Int) 3 λa=>gL .i64 (a.add 0) h λu=>gL .i64 (a.add 1) h λv=>gL .i64 (a.add 2) h λw=>K u v w:=by
 obtain⟨b,o,d,p,j,m,g⟩:=ha.2 i x y z hx;have hi:=(cY.1 hx).1;rw[d];refine ix O (by rw[ha.1];omega) ?_;rw[add_lit];refine eA (by simpa using j) (eA (by simpa using m) (eA (by simpa using g) hK))
end Go.Vc
namespace Go.Proofs
open Go.Vc
abbrev _root_.R1:=@Wg Tryz.prog
abbrev _root_.R2:=Option Addr
def WV.c (a b c d e f g h:Int)(i j:Sl)(k:Hp)(l:aO):Prop:=R1 4 #[.agg #[.I a,.I b,.I c,.I d,.I e,.I f],.I g,.I h,.slice i.a i.len i.cap,.slice j.a j.len j.cap] [.one .b] k l
def Yb.c (a b c d e f g h:Int)(i:Hp)(j:Option Addr->Hp->Prop):Prop:=R1 13 #[.agg #[.I a,.I b,.I c,.I d,.I e,.I f],.I g,.I h] [.one .p] i j
def XK.c (a:Sl)(b:Int)(c:Hp)(d:aO):Prop:=R1 14 #[.slice a.a a.len a.cap,.I b] [.one .b] c d
def XA.c (a:Hp)(b:aO):Prop:=R1 15 #[] [.one .b] a b
def Wy.c (a:R2)(b:Hp)(c:Sl->Hp->Prop):Prop:=R1 16 #[.pointer a] [.one .s] b c
def Xo.c (a:R2)(b c d e f g h:Int)(i:ByteArray)(j:Hp)(k:aN):Prop:=R1 17 #[.pointer a,.agg #[.I b,.I c,.I d,.I e,.I f,.I g,.I h,.string i]] [.I] j k
def WE.c (a:R2)(b:Hp)(c:aN):Prop:=R1 18 #[.pointer a] [.I] b c
def Xw.c (a b:Sl)(c:Hp)(d:aO):Prop:=R1 19 #[.slice a.a a.len a.cap,.slice b.a b.len b.cap] [.one .b] c d
def Yd.c (a b c d e f g h:Int)(i:Sl)(j:Int)(k:Hp)(l:Option Addr->Hp->Prop):Prop:=R1 20 #[.agg #[.I a,.I b,.I c,.I d,.I e,.I f],.I g,.I h,.slice i.a i.len i.cap,.I j] [.one .p] k l
def Wp.c (a:R2)(b c d:Int)(e:Hp)(f:Int->Int->Hp->Prop):Prop:=R1 21 #[.pointer a,.I b,.I c,.I d] [.I,.I] e f
def Yn.c (a:R2)(b c d:Int)(e:Hp)(f:Int->Int->Hp->Prop):Prop:=R1 22 #[.pointer a,.I b,.I c,.I d] [.I,.I] e f
def Wx.c (a:R2)(b:Hp)(c:Option Addr->Hp->Prop):Prop:=R1 23 #[.pointer a] [.one .p] b c
def Xa.c (a:R2)(b:Int)(c:Hp)(d:Int->Int->Int->Int->Int->Hp->Prop):Prop:=R1 24 #[.pointer a,.I b] [.agg [bO,bO,bO,bO],.I] c d
def Zi.c (a:Sl)(b c d e f g h:Int)(i:ByteArray)(j:Hp)(k:aN):Prop:=R1 25 #[.slice a.a a.len a.cap,.agg #[.I b,.I c,.I d,.I e,.I f,.I g,.I h,.string i]] [.I] j k
def WM.c (a:R2)(b:Hp)(c:Sl->Hp->Prop):Prop:=R1 27 #[.pointer a] [.one .s] b c
def Xy.c (a:R2)(b c:Int)(d:Hp)(e:aN):Prop:=R1 29 #[.pointer a,.I b,.I c] [.I] d e
def WD.c (a:R2)(b:Int)(c:Hp)(d:Int->Int->Hp->Prop):Prop:=R1 30 #[.pointer a,.I b] [.I,.I] c d
def YK.c (a:R2)(b:Int)(c:Hp)(d:Int->Int->Hp->Prop):Prop:=R1 32 #[.pointer a,.I b] [.I,.I] c d
def Zg.c (a:R2)(b:Hp)(c:Sl->Hp->Prop):Prop:=R1 33 #[.pointer a] [.one .s] b c
def Wj.c (a:R2)(b c:Int)(d:Hp)(e:aN):Prop:=R1 34 #[.pointer a,.I b,.I c] [.I] d e
def Zs.c (a:R2)(b c:Int)(d:Hp)(e:Option Addr->Int->Hp->Prop):Prop:=R1 36 #[.pointer a,.I b,.I c] [.one .p,.I] d e
def WG.c (a:R2)(b:Int)(c:Hp)(d:Int->Int->Hp->Prop):Prop:=R1 37 #[.pointer a,.I b] [.I,.I] c d
def Kf.c (a:R2)(b:Hp)(c:Option Addr->Int->Hp->Prop):Prop:=R1 38 #[.pointer a] [.one .p,.I] b c
def XP.c (a:Hp)(b:Option Addr->Hp->Prop):Prop:=R1 39 #[] [.one .p] a b
def WQ.c (a:R2)(b c:Int)(d:Hp)(e:aN):Prop:=R1 40 #[.pointer a,.I b,.I c] [.I] d e
def XG.c (a:R2)(b:Hp)(c:Option Addr->Hp->Prop):Prop:=R1 43 #[.pointer a] [.one .p] b c
def Xb.c (a b c d e f:Int)(g:Hp)(h:aO):Prop:=R1 52 #[.agg #[.I a,.I b,.I c,.I d,.I e,.I f]] [.one .b] g h
def WN.c (a b c d e f:Int)(g:Hp)(h:Option Addr->Hp->Prop):Prop:=R1 53 #[.agg #[.I a,.I b,.I c,.I d,.I e,.I f]] [.one .p] g h
def Xk.c (a b:Sl)(c:Hp)(d:aO):Prop:=R1 54 #[.slice a.a a.len a.cap,.slice b.a b.len b.cap] [.one .b] c d
def Wm.c (a:R2)(b:Hp)(c:aO):Prop:=R1 55 #[.pointer a] [.one .b] b c
def Ye.c (a:R2)(b c d:Int)(e:Hp)(f:Int->Int->Hp->Prop):Prop:=R1 56 #[.pointer a,.I b,.I c,.I d] [.I,.I] e f
def Yw.c (a:R2)(b c d e f:Int)(g:Hp)(h:Int->Int->Hp->Prop):Prop:=R1 57 #[.pointer a,.I b,.agg #[.I c,.I d,.I e,.I f]] [.I,.I] g h
def W9.c (a:R2)(b:Hp)(c:aO):Prop:=R1 58 #[.pointer a] [.one .b] b c
def Zy.c (a:R2)(b:Int)(c:Fv)(d:Hp)(e:Int->Int->Int->Int->Int->Bool->Hp->Prop):Prop:=R1 59 #[.pointer a,.I b,.func (.func c.f) c.first c.captured] [.agg [bO,bO,bO,bO,bO],.one .b] d e
def Y4.c (a b c d e:Int)(f:Hp)(g:aN):Prop:=R1 60 #[.agg #[.I a,.I b,.I c,.I d,.I e]] [.I] f g
def Y5.c (a:R2)(b:Hp)(c:Option Addr->Hp->Prop):Prop:=R1 61 #[.pointer a] [.one .p] b c
def YM.c (a:R2)(b c:Int)(d:Hp)(e:aN):Prop:=R1 62 #[.pointer a,.I b,.I c] [.I] d e
def WK.c (a:R2)(b:Int)(c:Hp)(d:aN):Prop:=R1 63 #[.pointer a,.I b] [.I] c d
def WB.c (a:R2)(b:Int)(c:Hp)(d:aP):Prop:=R1 64 #[.pointer a,.I b] [] c d
def Y7.c (a:R2)(b:Int)(c:Hp)(d:Int->Int->Hp->Prop):Prop:=R1 65 #[.pointer a,.I b] [.I,.I] c d
def Ub.c (a:Fv)(b:Hp)(c:Sl->Hp->Prop):Prop:=R1 66 #[.func (.func a.f) a.first a.captured] [.one .s] b c
def ZG.c (a:Option Nat)(b:Hp)(c:Fv->Hp->Prop):Prop:=R1 67 #[.map a] [.one .fn] b c
def WS.c (a:R2)(b:Int)(c:Hp)(d:aO):Prop:=R1 68 #[.pointer a,.I b] [.one .b] c d
def WC.c (a:R2)(b:Int)(c:Hp)(d:Int->Int->Int->Int->Bool->Hp->Prop):Prop:=R1 69 #[.pointer a,.I b] [.agg [bO,bO,bO,bO],.one .b] c d
def Zf.c (a:R2)(b c:Int)(d:Hp)(e:aN):Prop:=R1 70 #[.pointer a,.I b,.I c] [.I] d e
def X7.c (a:R2)(b:Int)(c:Hp)(d:Sl->Int->Hp->Prop):Prop:=R1 71 #[.pointer a,.I b] [.one .s,.I] c d
def XW.c (a b c d:Int)(e:Hp)(f:Sl->Hp->Prop):Prop:=R1 72 #[.agg #[.I a,.I b,.I c,.I d]] [.one .s] e f
def XQ.c (a:R2)(b:Hp)(c:aO):Prop:=R1 73 #[.pointer a] [.one .b] b c
def WL.c (a:R2)(b:Int)(c:Hp)(d:aO):Prop:=R1 75 #[.pointer a,.I b] [.one .b] c d
def Zj.c (a:R2)(b:Int)(c:Hp)(d:Int->Int->Hp->Prop):Prop:=R1 76 #[.pointer a,.I b] [.I,.I] c d
def Q8.c (a:R2)(b:Hp)(c:aO):Prop:=R1 77 #[.pointer a] [.one .b] b c
def YI.c (a:R2)(b c:Int)(d:Hp)(e:aN):Prop:=R1 78 #[.pointer a,.I b,.I c] [.I] d e
def Wh.c (a:Sl)(b:Hp)(c:Sl->Hp->Prop):Prop:=R1 79 #[.slice a.a a.len a.cap] [.one .s] b c
def ZR.c (a:R2)(b c:Int)(d:Hp)(e:aN):Prop:=R1 81 #[.pointer a,.I b,.I c] [.I] d e
def Zo.c (a:R2)(b c d e f:Int)(g:Hp)(h:aN):Prop:=R1 83 #[.pointer a,.I b,.agg #[.I c,.I d,.I e,.I f]] [.I] g h
def ZA.c (a:R2)(b:Int)(c:Hp)(d:Bool->Int->Int->Int->Hp->Prop):Prop:=R1 84 #[.pointer a,.I b] [.one .b,.agg [bO,bO],.I] c d
def X6.c (a:R2)(b:Hp)(c:aN):Prop:=R1 90 #[.pointer a] [.I] b c
def Xi.c (a:Int)(b:Hp)(c:Sl->Int->Hp->Prop):Prop:=R1 96 #[.I a] [.one .s,.I] b c
def Vi.c (a:Sl)(b c d e f:Int)(g:Hp)(h:Option Addr->Int->Hp->Prop):Prop:=R1 97 #[.slice a.a a.len a.cap,.agg #[.I b,.I c,.I d,.I e,.I f]] [.one .p,.I] g h
def XH.c (a b c d e:Int)(f:Hp)(g:aN):Prop:=R1 98 #[.agg #[.I a,.I b,.I c,.I d,.I e]] [.I] f g
def XT.c (a:R2)(b:Int)(c:Hp)(d:Int->Int->Hp->Prop):Prop:=R1 99 #[.pointer a,.I b] [.I,.I] c d
def X8.c (a b c d e:Int)(f:Hp)(g:Fv->Hp->Prop):Prop:=R1 100 #[.agg #[.I a,.I b,.I c,.I d,.I e]] [.one .fn] f g
def Z6.c (a:Int)(b:Hp)(c:aN):Prop:=R1 101 #[.I a] [.I] b c
def Yu.c (a:R2)(b c d e f g:Int)(h:Hp)(i:aP):Prop:=R1 102 #[.pointer a,.agg #[.I b,.I c,.I d,.I e,.I f],.I g] [] h i
def XF.c (a:R2)(b c d e f:Int)(g:Hp)(h:aO):Prop:=R1 103 #[.pointer a,.agg #[.I b,.I c,.I d,.I e,.I f]] [.one .b] g h
def XM.c (a:R2)(b c:Int)(d:Hp)(e:aN):Prop:=R1 104 #[.pointer a,.I b,.I c] [.I] d e
def Zv.c (a:R2)(b c:Int)(d:Hp)(e:aP):Prop:=R1 105 #[.pointer a,.I b,.I c] [] d e
def XY.c (a:R2)(b:Hp)(c:Int->Int->Int->Int->Int->Hp->Prop):Prop:=R1 106 #[.pointer a] [.agg [bO,bO,bO,bO,bO]] b c
def YX.c (a:R2)(b:Int)(c:Hp)(d:ByteArray->Hp->Prop):Prop:=R1 107 #[.pointer a,.I b] [.one .str] c d
def W7.c (a:Sl)(b:Hp)(c:aN):Prop:=R1 108 #[.slice a.a a.len a.cap] [.I] b c
def Zl.c (a:R2)(b c:Int)(d:Hp)(e:aN):Prop:=R1 109 #[.pointer a,.I b,.I c] [.I] d e
def Zu.c (a:R2)(b:Int)(c:Hp)(d:aN):Prop:=R1 110 #[.pointer a,.I b] [.I] c d
def VU.c (a:Fv)(b:Hp)(c:Sl->Hp->Prop):Prop:=R1 111 #[.func (.func a.f) a.first a.captured] [.one .s] b c
def QE.c (a:Fv)(b:Addr)(c:Hp)(d:aP):Prop:=R1 113 #[.func (.func a.f) a.first a.captured,.pointer (some b)] [] c d
def Wb.c (a:Sl)(b:Fv)(c:Hp)(d:aO):Prop:=R1 114 #[.slice a.a a.len a.cap,.func (.func b.f) b.first b.captured] [.one .b] c d
def W5.c (a b:Int)(c:Addr)(d:Hp)(e:aO):Prop:=R1 115 #[.agg #[.I a,.I b],.pointer (some c)] [.one .b] d e
def Wf.c (a:Sl)(b:Int)(c:Fv)(d:Hp)(e:Int->Bool->Hp->Prop):Prop:=R1 116 #[.slice a.a a.len a.cap,.I b,.func (.func c.f) c.first c.captured] [.I,.one .b] d e
def WX.c (a b c d e:Int)(f:Hp)(g:aN):Prop:=R1 117 #[.agg #[.I a,.I b,.I c,.I d],.I e] [.I] f g
def XU.c (a:R2)(b c:Int)(d:Bool)(e:Hp)(f:aN):Prop:=R1 118 #[.pointer a,.I b,.I c,.bool d] [.I] e f
def XO.c (a:R2)(b c d e f:Int)(g:Hp)(h:Sl->Hp->Prop):Prop:=R1 119 #[.pointer a,.agg #[.I b,.I c,.I d,.I e,.I f]] [.one .s] g h
def QV.c (a:Fv)(b:Addr)(c:Hp)(d:aP):Prop:=R1 120 #[.func (.func a.f) a.first a.captured,.pointer (some b)] [] c d
def WY.c (a b:Int)(c d:Addr)(e:Hp)(f:aO):Prop:=R1 121 #[.agg #[.I a,.I b],.pointer (some c),.pointer (some d)] [.one .b] e f
def Ww.c (a:Sl)(b:Int)(c:Hp)(d:aO):Prop:=R1 122 #[.slice a.a a.len a.cap,.I b] [.one .b] c d
def Yo.c (a:R2)(b:Int)(c:Hp)(d:aN):Prop:=R1 123 #[.pointer a,.I b] [.I] c d
def Yi.c (a:R2)(b:Int)(c:Hp)(d:aO):Prop:=R1 124 #[.pointer a,.I b] [.one .b] c d
def YL.c (a:R2)(b c d e:Int)(f:Hp)(g:Value->Hp->Prop):Prop:=R1 125 #[.pointer a,.agg #[.I b,.I c,.I d,.I e]] [.one .raw] f g
def ZQ.c (a:R2)(b:Int)(c:Value)(d:Hp)(e:Value->Int->Int->Hp->Prop):Prop:=R1 126 #[.pointer a,.I b,c] [.one .raw,.agg [bO,bO]] d e
def X3.c (a:R2)(b:Hp)(c:aN):Prop:=R1 130 #[.pointer a] [.I] b c
def XZ.c (a:R2)(b:Hp)(c:aO):Prop:=R1 131 #[.pointer a] [.one .b] b c
def Xu.c (a:R2)(b:Hp)(c:aO):Prop:=R1 132 #[.pointer a] [.one .b] b c
def Xv.c (a:R2)(b:Hp)(c:aO):Prop:=R1 133 #[.pointer a] [.one .b] b c
def Wo.c (a:Sl)(b:Hp)(c:Sl->Hp->Prop):Prop:=R1 141 #[.slice a.a a.len a.cap] [.one .s] b c
def W4.c (a:Sl)(b:Hp)(c:Sl->Hp->Prop):Prop:=R1 146 #[.slice a.a a.len a.cap] [.one .s] b c
def XB.c (a b:Int)(c:Hp)(d:Int->Int->Int->Hp->Prop):Prop:=R1 148 #[.I a,.I b] [.agg [bO,bO,bO]] c d
def Yc.c (a b:Int)(c:Hp)(d:aN):Prop:=R1 149 #[.I a,.I b] [.I] c d
def Xc.c (a b c:Int)(d:Hp)(e:aN):Prop:=R1 150 #[.agg #[.I a,.I b,.I c]] [.I] d e
def ZZ.c (a:Sl)(b:Hp)(c:aO):Prop:=R1 151 #[.slice a.a a.len a.cap] [.one .b] b c
def Q9.c (a b c d e:Int)(f:Hp)(g:aO):Prop:=R1 152 #[.agg #[.I a,.I b,.I c,.I d,.I e]] [.one .b] f g
def KA.c (a:Int)(b:Hp)(c:Option Addr->Int->Hp->Prop):Prop:=R1 153 #[.I a] [.one .p,.I] b c
def Kx.c (a:Sl)(b:R2)(c:Int)(d:Hp)(e:Option Addr->Int->Hp->Prop):Prop:=R1 154 #[.slice a.a a.len a.cap,.pointer b,.I c] [.one .p,.I] d e
def Kz.c (a:Sl)(b:Int)(c:Hp)(d:Option Addr->Int->Hp->Prop):Prop:=R1 155 #[.slice a.a a.len a.cap,.I b] [.one .p,.I] c d
def Wq.c (a:Sl)(b c:Bool)(d:Hp)(e:aO):Prop:=R1 157 #[.slice a.a a.len a.cap,.agg #[.bool b,.bool c]] [.one .b] d e
def We.c (a:Sl)(b:Fv)(c:Hp)(d:aN):Prop:=R1 161 #[.slice a.a a.len a.cap,.func (.func b.f) b.first b.captured] [.I] c d
def YF.c (a:R2)(b:Int)(c:Hp)(d:aN):Prop:=R1 162 #[.pointer a,.I b] [.I] c d
def W3.c (a:Sl)(b:Int)(c:Hp)(d:aN):Prop:=R1 163 #[.slice a.a a.len a.cap,.I b] [.I] c d
def QK.c (a:Sl)(b c:Int)(d:Hp)(e:Int->Int->Hp->Prop):Prop:=R1 164 #[.slice a.a a.len a.cap,.I b,.I c] [.I,.I] d e
def ZT.c (a:R2)(b:Int)(c:Hp)(d:aN):Prop:=R1 165 #[.pointer a,.I b] [.I] c d
def Yy.c (a:R2)(b:Int)(c:Hp)(d:Int->Int->Hp->Prop):Prop:=R1 166 #[.pointer a,.I b] [.I,.I] c d
def Zb.c (a:R2)(b c d:Int)(e:Hp)(f:Value->Int->Int->Hp->Prop):Prop:=R1 167 #[.pointer a,.I b,.I c,.I d] [.one .raw,.agg [bO,bO]] e f
def Yt.c (a:R2)(b:Int)(c:Hp)(d:Int->Int->Hp->Prop):Prop:=R1 168 #[.pointer a,.I b] [.I,.I] c d
def WU.c (a:R2)(b:Int)(c:Hp)(d:Sl->Int->Hp->Prop):Prop:=R1 169 #[.pointer a,.I b] [.one .s,.I] c d
def YG.c (a:R2)(b c:Int)(d:Sl)(e:Hp)(f:aP):Prop:=R1 170 #[.pointer a,.I b,.I c,.slice d.a d.len d.cap] [] e f
def WZ.c (a:R2)(b c:Int)(d:Hp)(e:Sl->Int->Hp->Prop):Prop:=R1 171 #[.pointer a,.I b,.I c] [.one .s,.I] d e
def Yr.c (a:R2)(b:Int)(c:Hp)(d:aN):Prop:=R1 172 #[.pointer a,.I b] [.I] c d
def Yj.c (a:R2)(b:Int)(c:Sl)(d:Hp)(e:aN):Prop:=R1 173 #[.pointer a,.I b,.slice c.a c.len c.cap] [.I] d e
def Xe.c (a:R2)(b c:Int)(d:Hp)(e:Int->Int->Hp->Prop):Prop:=R1 174 #[.pointer a,.I b,.I c] [.I,.I] d e
def ZS.c (a:R2)(b c:Int)(d:Hp)(e:Value->Int->Int->Hp->Prop):Prop:=R1 175 #[.pointer a,.I b,.I c] [.one .raw,.agg [bO,bO]] d e
def YZ.c (a:R2)(b c:Int)(d:Hp)(e:Sl->Int->Hp->Prop):Prop:=R1 176 #[.pointer a,.I b,.I c] [.one .s,.I] d e
def Yp.c (a:R2)(b:Hp)(c:aO):Prop:=R1 177 #[.pointer a] [.one .b] b c
def Xq.c (a:R2)(b:Hp)(c:Sl->Hp->Prop):Prop:=R1 178 #[.pointer a] [.one .s] b c
def Xm.c (a:R2)(b:Int)(c:Hp)(d:Value->Hp->Prop):Prop:=R1 179 #[.pointer a,.I b] [.one .raw] c d
def Wz.c (a:Sl)(b:Hp)(c:Sl->Hp->Prop):Prop:=R1 180 #[.slice a.a a.len a.cap] [.one .s] b c
def ZO.c (a:R2)(b c:Int)(d:Sl)(e:Hp)(f:aP):Prop:=R1 181 #[.pointer a,.I b,.agg #[.I c,.slice d.a d.len d.cap]] [] e f
def Xf.c (a:R2)(b:Int)(c:Hp)(d:aN):Prop:=R1 182 #[.pointer a,.I b] [.I] c d
def X0.c (a:R2)(b:Hp)(c:Sl->Hp->Prop):Prop:=R1 183 #[.pointer a] [.one .s] b c
def Yv.c (a:R2)(b:Sl)(c:Hp)(d:aP):Prop:=R1 184 #[.pointer a,.slice b.a b.len b.cap] [] c d
def Ya.c (a:R2)(b:Hp)(c:Sl->Hp->Prop):Prop:=R1 185 #[.pointer a] [.one .s] b c
def Xd.c (a:R2)(b:Int)(c:Sl)(d:Hp)(e:aN):Prop:=R1 194 #[.pointer a,.I b,.slice c.a c.len c.cap] [.I] d e
def Ke.c (a b c:Int)(d:Hp)(e:aO):Prop:=R1 195 #[.agg #[.I a,.I b,.I c]] [.one .b] d e
def Z2.c (a b c:Int)(d:Hp)(e:aN):Prop:=R1 196 #[.agg #[.I a,.I b,.I c]] [.I] d e
def W8.c (a:R2)(b:Hp)(c:aO):Prop:=R1 197 #[.pointer a] [.one .b] b c
def Z3.c (a:R2)(b:Hp)(c:Int->Int->Hp->Prop):Prop:=R1 198 #[.pointer a] [.agg [bO,bO]] b c
def Xz.c (a:R2)(b:Hp)(c:aO):Prop:=R1 199 #[.pointer a] [.one .b] b c
def YC.c (a:R2)(b:Hp)(c:aN):Prop:=R1 201 #[.pointer a] [.I] b c
def Ys.c (a:R2)(b:Hp)(c:aO):Prop:=R1 202 #[.pointer a] [.one .b] b c
def QL.c (a:Hp)(b:Option Addr->Hp->Prop):Prop:=R1 209 #[] [.one .p] a b
def Ky.c (a:Int)(b:Hp)(c:Option Addr->Int->Hp->Prop):Prop:=R1 210 #[.I a] [.one .p,.I] b c
def Vj.c (a:Int)(b:Hp)(c:Option Addr->Int->Hp->Prop):Prop:=R1 211 #[.I a] [.one .p,.I] b c
def QJ.c (a b c:Int)(d:Hp)(e:Option Addr->Int->Hp->Prop):Prop:=R1 212 #[.agg #[.I a,.I b,.I c]] [.one .p,.I] d e
def Qj.c (a b:Int)(c:Hp)(d:Option Addr->Int->Hp->Prop):Prop:=R1 213 #[.I a,.I b] [.one .p,.I] c d
def Wv.c (a:Sl)(b c:Bool)(d:Hp)(e:aN):Prop:=R1 214 #[.slice a.a a.len a.cap,.agg #[.bool b,.bool c]] [.I] d e
def QM.c (a:Int)(b:Hp)(c:aN):Prop:=R1 226 #[.I a] [.I] b c
def Ws.c (a:Sl)(b:Fv)(c:Hp)(d:aN):Prop:=R1 227 #[.slice a.a a.len a.cap,.func (.func b.f) b.first b.captured] [.I] c d
def Qp.c (a b c:Int)(d e:Addr)(f:Hp)(g:aO):Prop:=R1 228 #[.agg #[.I a,.I b,.I c],.pointer (some d),.pointer (some e)] [.one .b] f g
def XI.c (a:R2)(b:Int)(c:Hp)(d:Option Addr->Int->Hp->Prop):Prop:=R1 229 #[.pointer a,.I b] [.one .p,.I] c d
def Yz.c (a:R2)(b:Int)(c:Hp)(d:aN):Prop:=R1 230 #[.pointer a,.I b] [.I] c d
def Xh.c (a:R2)(b:Int)(c:Hp)(d:aN):Prop:=R1 231 #[.pointer a,.I b] [.I] c d
def WT.c (a:R2)(b:Hp)(c:Sl->Int->Hp->Prop):Prop:=R1 232 #[.pointer a] [.one .s,.I] b c
def Xt.c (a:R2)(b:Int)(c:Hp)(d:Sl->Int->Hp->Prop):Prop:=R1 233 #[.pointer a,.I b] [.one .s,.I] c d
def Y3.c (a:R2)(b c d:Int)(e:Hp)(f:Int->Int->Hp->Prop):Prop:=R1 234 #[.pointer a,.I b,.I c,.I d] [.I,.I] e f
def Zc.c (a:R2)(b:Int)(c:Hp)(d:aN):Prop:=R1 235 #[.pointer a,.I b] [.I] c d
def Xj.c (a:Sl)(b:Hp)(c:aP):Prop:=R1 236 #[.slice a.a a.len a.cap] [] b c
def Xl.c (a:R2)(b:Sl)(c:Hp)(d:aN):Prop:=R1 237 #[.pointer a,.slice b.a b.len b.cap] [.I] c d
def Za.c (a:R2)(b:Int)(c:Hp)(d:Int->Int->Int->Hp->Prop):Prop:=R1 238 #[.pointer a,.I b] [.I,.I,.I] c d
def Xs.c (a:R2)(b:Int)(c:Hp)(d:Sl->Hp->Prop):Prop:=R1 239 #[.pointer a,.I b] [.one .s] c d
def XD.c (a:R2)(b:Fv)(c:Hp)(d:Sl->Hp->Prop):Prop:=R1 240 #[.pointer a,.func (.func b.f) b.first b.captured] [.one .s] c d
def XJ.c (a:R2)(b:Int)(c:Hp)(d:Sl->Hp->Prop):Prop:=R1 241 #[.pointer a,.I b] [.one .s] c d
def W6.c (a:R2)(b:Int)(c:Sl)(d:Hp)(e:Bool->Int->Hp->Prop):Prop:=R1 242 #[.pointer a,.I b,.slice c.a c.len c.cap] [.one .b,.I] d e
def YP.c (a:R2)(b:Int)(c:Hp)(d:Sl->Hp->Prop):Prop:=R1 243 #[.pointer a,.I b] [.one .s] c d
def X4.c (a:R2)(b c:Int)(d:Hp)(e:aN):Prop:=R1 244 #[.pointer a,.I b,.I c] [.I] d e
def XN.c (a:R2)(b c:Int)(d:Hp)(e:aN):Prop:=R1 245 #[.pointer a,.I b,.I c] [.I] d e
def Yl.c (a:R2)(b c:Int)(d:Hp)(e:aN):Prop:=R1 246 #[.pointer a,.I b,.I c] [.I] d e
def Wi.c (a:Sl)(b:Fv)(c:Hp)(d:Sl->Hp->Prop):Prop:=R1 247 #[.slice a.a a.len a.cap,.func (.func b.f) b.first b.captured] [.one .s] c d
def Yg.c (a b:Int)(c:R2)(d:Addr)(e:Hp)(f:aO):Prop:=R1 248 #[.agg #[.I a,.I b,.pointer c],.pointer (some d)] [.one .b] e f
def XE.c (a:R2)(b:Hp)(c:aO):Prop:=R1 249 #[.pointer a] [.one .b] b c
def Y8.c (a:R2)(b:Hp)(c:aN):Prop:=R1 250 #[.pointer a] [.I] b c
def Zp.c (a:R2)(b:Int)(c:Hp)(d:Sl->Hp->Prop):Prop:=R1 252 #[.pointer a,.I b] [.one .s] c d
def X5.c (a:R2)(b c d:Int)(e:Sl)(f:Hp)(g:aN):Prop:=R1 256 #[.pointer a,.I b,.I c,.I d,.slice e.a e.len e.cap] [.I] f g
def YJ.c (a:R2)(b:Int)(c:Hp)(d:Sl->Int->Hp->Prop):Prop:=R1 259 #[.pointer a,.I b] [.one .s,.I] c d
def Q1.c (a:Sl)(b:Int)(c:Hp)(d:aP):Prop:=R1 261 #[.slice a.a a.len a.cap,.I b] [] c d
def Ze.c (a:R2)(b c:Int)(d:Hp)(e:aN):Prop:=R1 262 #[.pointer a,.I b,.I c] [.I] d e
def YN.c (a:R2)(b:Int)(c:Hp)(d:aO):Prop:=R1 263 #[.pointer a,.I b] [.one .b] c d
def ZM.c (a:R2)(b c:Int)(d:Hp)(e:aP):Prop:=R1 264 #[.pointer a,.I b,.I c] [] d e
def Y9.c (a:R2)(b:Sl)(c:Hp)(d:Sl->Int->Hp->Prop):Prop:=R1 267 #[.pointer a,.slice b.a b.len b.cap] [.one .s,.I] c d
def YE.c (a:R2)(b:Hp)(c:aO):Prop:=R1 268 #[.pointer a] [.one .b] b c
def XX.c (a:R2)(b:Hp)(c:aO):Prop:=R1 270 #[.pointer a] [.one .b] b c
def Y1.c (a:R2)(b c d:Int)(e:Hp)(f:aN):Prop:=R1 272 #[.pointer a,.I b,.I c,.I d] [.I] e f
def ZU.c (a b c:Int)(d:Hp)(e:Int->Int->Hp->Prop):Prop:=R1 274 #[.agg #[.I a,.I b,.I c]] [.I,.I] d e
def ZN.c (a:R2)(b:Int)(c:Hp)(d:Option Addr->Hp->Prop):Prop:=R1 281 #[.pointer a,.I b] [.one .p] c d
def Wr.c (a:Sl)(b:Fv)(c:Hp)(d:aN):Prop:=R1 282 #[.slice a.a a.len a.cap,.func (.func b.f) b.first b.captured] [.I] c d
def Zm.c (a:R2)(b:Addr)(c:Hp)(d:aO):Prop:=R1 283 #[.pointer a,.pointer (some b)] [.one .b] c d
def Y6.c (a:R2)(b:Int)(c:Hp)(d:aO):Prop:=R1 284 #[.pointer a,.I b] [.one .b] c d
def Zh.c (a:R2)(b:Hp)(c:Int->Bool->Hp->Prop):Prop:=R1 285 #[.pointer a] [.I,.one .b] b c
def X1.c (a:R2)(b c:Int)(d:Hp)(e:Int->Int->Hp->Prop):Prop:=R1 286 #[.pointer a,.I b,.I c] [.I,.I] d e
def Zd.c (a:R2)(b:Int)(c:Hp)(d:aO):Prop:=R1 287 #[.pointer a,.I b] [.one .b] c d
def XV.c (a:R2)(b c:Int)(d:Hp)(e:aN):Prop:=R1 288 #[.pointer a,.I b,.I c] [.I] d e
def Yx.c (a:R2)(b c d:Int)(e:Hp)(f:aN):Prop:=R1 289 #[.pointer a,.I b,.I c,.I d] [.I] e f
def Vk.c (a b c d:Int)(e:Hp)(f:Option Addr->Int->Hp->Prop):Prop:=R1 290 #[.I a,.agg #[.I b,.I c,.I d]] [.one .p,.I] e f
def Wc.c (a:Sl)(b:Int)(c:Fv)(d:Hp)(e:Int->Bool->Hp->Prop):Prop:=R1 291 #[.slice a.a a.len a.cap,.I b,.func (.func c.f) c.first c.captured] [.I,.one .b] d e
def YY.c (a b:Int)(c:R2)(d:Int)(e:Hp)(f:aN):Prop:=R1 292 #[.agg #[.I a,.I b,.pointer c],.I d] [.I] e f
def Wk.c (a:Sl)(b:Int)(c:Sl)(d:Hp)(e:Sl->Hp->Prop):Prop:=R1 293 #[.slice a.a a.len a.cap,.I b,.slice c.a c.len c.cap] [.one .s] d e
def XC.c (a:Sl)(b:Hp)(c:Sl->Hp->Prop):Prop:=R1 294 #[.slice a.a a.len a.cap] [.one .s] b c
def Zx.c (a:R2)(b:Int)(c:Hp)(d:aN):Prop:=R1 295 #[.pointer a,.I b] [.I] c d
def YO.c (a:R2)(b:Int)(c:Hp)(d:Int->Int->Hp->Prop):Prop:=R1 296 #[.pointer a,.I b] [.I,.I] c d
def Qx.c (a:Sl)(b:Fv)(c:Hp)(d:aP):Prop:=R1 297 #[.slice a.a a.len a.cap,.func (.func b.f) b.first b.captured] [] c d
def Xp.c (a:R2)(b:Int)(c:Hp)(d:Bool->Int->Hp->Prop):Prop:=R1 299 #[.pointer a,.I b] [.one .b,.I] c d
def Xr.c (a:R2)(b:Sl)(c:Hp)(d:Bool->Int->Hp->Prop):Prop:=R1 300 #[.pointer a,.slice b.a b.len b.cap] [.one .b,.I] c d
def Yh.c (a:R2)(b c:Int)(d:Hp)(e:aP):Prop:=R1 301 #[.pointer a,.I b,.I c] [] d e
def Wn.c (a:Sl)(b:Fv)(c:Hp)(d:aN):Prop:=R1 302 #[.slice a.a a.len a.cap,.func (.func b.f) b.first b.captured] [.I] c d
def WP.c (a:Sl)(b:Fv)(c:Hp)(d:aO):Prop:=R1 304 #[.slice a.a a.len a.cap,.func (.func b.f) b.first b.captured] [.one .b] c d
def YQ.c (a:Int)(b:Addr)(c:Hp)(d:aO):Prop:=R1 305 #[.I a,.pointer (some b)] [.one .b] c d
def Zt.c (a:R2)(b c:Int)(d:Hp)(e:Sl->Int->Hp->Prop):Prop:=R1 306 #[.pointer a,.I b,.I c] [.one .s,.I] d e
def Zq.c (a:R2)(b c:Int)(d e:Bool)(f:Hp)(g:aP):Prop:=R1 307 #[.pointer a,.I b,.I c,.agg #[.bool d,.bool e]] [] f g
def XL.c (a:R2)(b:Int)(c:Hp)(d:Int->Int->Bool->Hp->Prop):Prop:=R1 308 #[.pointer a,.I b] [.I,.I,.one .b] c d
def X2.c (a:R2)(b:Int)(c:Hp)(d:Option Addr->Hp->Prop):Prop:=R1 310 #[.pointer a,.I b] [.one .p] c d
def ZV.c (a:R2)(b:Int)(c:Hp)(d:aN):Prop:=R1 311 #[.pointer a,.I b] [.I] c d
def ZB.c (a:R2)(b c:Int)(d:Hp)(e:aP):Prop:=R1 312 #[.pointer a,.I b,.I c] [] d e
def Yf.c (a:R2)(b:Int)(c:Hp)(d:aN):Prop:=R1 314 #[.pointer a,.I b] [.I] c d
def Xn.c (a b c d:Int)(e:Hp)(f:aO):Prop:=R1 315 #[.agg #[.I a,.I b],.agg #[.I c,.I d]] [.one .b] e f
def ZP.c (a:R2)(b:Hp)(c:Int->Int->Hp->Prop):Prop:=R1 316 #[.pointer a] [.I,.I] b c
def QQ.c (a:Option Nat)(b:Hp)(c:Fv->Hp->Prop):Prop:=R1 317 #[.map a] [.one .fn] b c
def Zw.c (a:R2)(b c:Int)(d:Hp)(e:aN):Prop:=R1 318 #[.pointer a,.I b,.I c] [.I] d e
def Yk.c (a:R2)(b:Int)(c:Hp)(d:aN):Prop:=R1 319 #[.pointer a,.I b] [.I] c d
def Va.c (a:Sl)(b:Int)(c:Hp)(d:aP):Prop:=R1 321 #[.slice a.a a.len a.cap,.I b] [] c d
def Yq.c (a:R2)(b:Int)(c:Hp)(d:Int->Int->Hp->Prop):Prop:=R1 322 #[.pointer a,.I b] [.I,.I] c d
def YD.c (a:R2)(b:Int)(c:Hp)(d:Bool->Int->Hp->Prop):Prop:=R1 324 #[.pointer a,.I b] [.one .b,.I] c d
def Zr.c (a:R2)(b c:Int)(d:Hp)(e:aP):Prop:=R1 325 #[.pointer a,.I b,.I c] [] d e
def Xg.c (a:Sl)(b:Fv)(c:Hp)(d:aN):Prop:=R1 334 #[.slice a.a a.len a.cap,.func (.func b.f) b.first b.captured] [.I] c d
def Ym.c (a:R2)(b:Int)(c:Hp)(d:Int->Int->Hp->Prop):Prop:=R1 335 #[.pointer a,.I b] [.I,.I] c d
def Zz.c (a:R2)(b:Int)(c:Sl)(d:Hp)(e:aP):Prop:=R1 336 #[.pointer a,.I b,.slice c.a c.len c.cap] [] d e
def WO.c (a:R2)(b:Hp)(c:Option Addr->Hp->Prop):Prop:=R1 337 #[.pointer a] [.one .p] b c
def WR.c (a:R2)(b:Hp)(c:Option Addr->Hp->Prop):Prop:=R1 338 #[.pointer a] [.one .p] b c
def YH.c (a:R2)(b:Int)(c:Hp)(d:aN):Prop:=R1 339 #[.pointer a,.I b] [.I] c d
def KK.c (a:Fv)(b:Addr)(c:Hp)(d:aP):Prop:=R1 340 #[.func (.func a.f) a.first a.captured,.pointer (some b)] [] c d
def Wl.c (a:Sl)(b:Fv)(c:Hp)(d:aO):Prop:=R1 341 #[.slice a.a a.len a.cap,.func (.func b.f) b.first b.captured] [.one .b] c d
def YS.c (a b:Bool)(c:Hp)(d:aO):Prop:=R1 342 #[.agg #[.bool a,.bool b]] [.one .b] c d
def Wt.c (a:Sl)(b:Fv)(c:Hp)(d:aN):Prop:=R1 355 #[.slice a.a a.len a.cap,.func (.func b.f) b.first b.captured] [.I] c d
def Qh.c (a:Int)(b:Hp)(c:ByteArray->Hp->Prop):Prop:=R1 379 #[.agg #[.I a]] [.one .str] b c
def Z7.c (a:Int)(b:Hp)(c:ByteArray->Hp->Prop):Prop:=R1 380 #[.agg #[.I a]] [.one .str] b c
def Qk.c (a:Int)(b:Hp)(c:ByteArray->Hp->Prop):Prop:=R1 381 #[.agg #[.I a]] [.one .str] b c
def Z5.c (a:Hp)(b:ByteArray->Hp->Prop):Prop:=R1 382 #[.agg #[]] [.one .str] a b
def Zn.c (a b:Int)(c:Hp)(d:ByteArray->Hp->Prop):Prop:=R1 383 #[.agg #[.I a,.I b]] [.one .str] c d
def Qt.c (a:Hp)(b:ByteArray->Hp->Prop):Prop:=R1 384 #[.agg #[]] [.one .str] a b
def ZH.c (a b:Int)(c:Hp)(d:ByteArray->Hp->Prop):Prop:=R1 385 #[.agg #[.I a,.I b]] [.one .str] c d
def Qo.c (a b:Int)(c:Hp)(d:ByteArray->Hp->Prop):Prop:=R1 386 #[.agg #[.I a,.I b]] [.one .str] c d
def QF.c (a b:Int)(c:Hp)(d:ByteArray->Hp->Prop):Prop:=R1 387 #[.agg #[.I a,.I b]] [.one .str] c d
def Qi.c (a:Hp)(b:ByteArray->Hp->Prop):Prop:=R1 388 #[.agg #[]] [.one .str] a b
def Qm.c (a b:Int)(c:Hp)(d:ByteArray->Hp->Prop):Prop:=R1 389 #[.agg #[.I a,.I b]] [.one .str] c d
set_option maxRecDepth 100000
def Ys.h:Hn:=.q .o1 (.q (.cU (.seq [.op,.op,.op,.cZ true 5 (RI.ops 5),.op])) .l)
abbrev _root_.aQ(a:Addr)(n:Nat)(h:Hp)(K:Int->Prop):Prop:=gL .i64 (a.add n) h K
abbrev _root_.aR(a:Addr)(n:Nat)(v:Value)(h:Hp)(K:Hp->Prop):Prop:=dG (a.add n) v h K
abbrev _root_.aX(a:Addr)(n:Nat)(h:Hp)(K:Sl->Prop):Prop:=jF (a.add n) h K
abbrev _root_.aY(a:Addr)(n:Nat)(h:Hp)(K:Option Addr->Prop):Prop:=fZ (a.add n) h K
abbrev _root_.aZ(a:Addr)(n:Nat)(h:Hp)(K:Bool->Prop):Prop:=lZ (a.add n) h K
abbrev _root_.bA(a:Addr)(n:Nat)(h:Hp)(K:Value->Prop):Prop:=y7 (a.add n) h K
abbrev _root_.bC(a:Addr)(n:Nat)(h:Hp)(K:Option Nat->Prop):Prop:=lO (a.add n) h K
abbrev _root_.bD(a:Addr)(n:Nat)(h:Hp)(K:ByteArray->Prop):Prop:=yk (a.add n) h K
abbrev _root_.bE(p:Option Addr)(n:Nat)(h:Hp)(K:Int->Prop):Prop:=bW p λa=>gL .i64 (a.add n) h K
abbrev _root_.bF(p:Option Addr)(n:Nat)(h:Hp)(K:Sl->Prop):Prop:=bW p λa=>jF (a.add n) h K
abbrev _root_.bG(p:Option Addr)(n:Nat)(h:Hp)(K:Option Addr->Prop):Prop:=bW p λa=>fZ (a.add n) h K
abbrev _root_.bH(p:Option Addr)(n:Nat)(h:Hp)(K:Bool->Prop):Prop:=bW p λa=>lZ (a.add n) h K
abbrev _root_.bI(p:Option Addr)(n:Nat)(h:Hp)(K:Value->Prop):Prop:=bW p λa=>y7 (a.add n) h K
abbrev _root_.bJ(p:Option Addr)(n:Nat)(h:Hp)(K:Option Nat->Prop):Prop:=bW p λa=>lO (a.add n) h K
abbrev _root_.bK(p:Option Addr)(n:Nat)(h:Hp)(K:ByteArray->Prop):Prop:=bW p λa=>yk (a.add n) h K
abbrev _root_.aS(S:Hp->Prop)(a:Addr)(n:Nat)(K:Int->Prop):Prop:=gF S bO (a.add n) K
abbrev _root_.aT(S:Hp->Prop)(a:Addr)(n:Nat)(K:Sl->Prop):Prop:=gF S .s (a.add n) K
abbrev _root_.aU(S:Hp->Prop)(a:Addr)(n:Nat)(K:Option Addr->Prop):Prop:=gF S .p (a.add n) K
abbrev _root_.bM(e:Int)(K:Int->Prop):Prop:=Ar .i64 e K
abbrev _root_.bN(a:Addr)(h:Hp)(K:Int->Prop):Prop:=gL .i64 a h K
abbrev _root_.aV(c:Array Value)(t:Nat)(h:Hp)(K:Addr->Hp->Prop):Prop:=Nw (.cells c t (0,0)) h K
def Ys.v (a:R2)(b:Hp)(c:aO):Prop:=bX (λd e=>c d e) λf=>If (!a.isNone) (bE a 0 b λh=>f (decide (h>0)) b) (f false b)
theorem Ys.o {a b c}(d:Ys.v a b c):Ys.c a b c:=Wa Tryz.func202 (x:=Ys.h) (R0 d)
def Ky.h:Hn:=.q .o2 (.q (.q (.cU (.seq [.op,.op,.op,.cZ false 2 [.op,.op]])) .aJ) (.q .o4 (.q (.q .o1 (.k (.loop [(5,.I)] (.q (.q .o3 (.c .l .l)) (.q (.k (.o 11)) .o3))))) (.q .o3 .l))))
def Ky.v (a:Int)(b:Hp)(c:Option Addr->Int->Hp->Prop):Prop:=bX (λd e=>If d (c none 1 e) (Nw (.cells #[.I a,.slice none 0 0] 286 (0,0)) e λf g=>X9 [bO] (λh=>h 1 g) λi (j:Int) k=>If (j<=a) (bW (some f) λl=>jF (l.add 1) k λm=>Nw (.map #[] 0) k λn o=>Nw (.cells #[.map (some n.block)] 73 (0,0)) o λp q=>App m 1 8 73 [.map none] ⟨some p,1,1⟩ q λr s=>bW (some f) λt=>dG (t.add 1) (.slice r.a r.len r.cap) s λu=>Ar .i64 (j*2) λv=>i v u) (c (some f) 0 k))) λw=>If (a<1) (w true b) (w (decide (a>1024)) b)
theorem Ky.o {a b c}(d:Ky.v a b c):Ky.c a b c:=Wa Tryz.func210 (x:=Ky.h) (R0 d)
def Yl.h:Hn:=.q .o1 (.q (.q .o5 (.q .o2 .aJ)) (.q (.q .o2 (.k (.loop [(8,.I)] (.q (.q .o5 (.c .l .l)) (.q (.k (.q .o3 .aK)) .o3))))) (.q .o4 .aM)))
def Yl.v (a:R2)(b c:Int)(d:Hp)(e:aN):Prop:=Ze.c a b c d λf g=>If (f != 0) (e f g) (X9 [bO] (λh=>h b g) λi (j:Int) k=>bM (b+c) λl=>If (j<l) (YN.c a j k λm n=>If m (e 9 n) (bM (j+1) λo=>i o n)) (Yh.c a b c k λp=>e 0 p))
theorem Yl.o {a b c d e}(f:Yl.v a b c d e):Yl.c a b c d e:=Wa Tryz.func246 (x:=Yl.h) (R0 f)
def Ze.h:Hn:=.q .o1 (.q (.k (.q .o4 (.c .aM (.q (.cU (.seq [.op,.op,.op,.cZ false 2 [.op,.op],.op,.cZ false 6 (RI.ops 6),.op,.cZ false 8 (RI.ops 8),.op])) .aK)))) .aM)
def Ze.v (a:R2)(b c:Int)(d:Hp)(e:aN):Prop:=Ys.c a d λf g=>If (!f) (e 5 g) (bX (λh i=>bX (λj k=>bX (λl m=>If l (e 1 m) (e 0 m)) λn=>If j (n true k) (bE a 0 k λp=>bM (p-b) λq=>n (decide (c>q)) k)) λr=>If h (r true i) (bE a 0 i λt=>r (decide (b>t)) i)) λu=>If (b<0) (u true g) (u (decide (c<1)) g))
theorem Ze.o {a b c d e}(f:Ze.v a b c d e):Ze.c a b c d e:=Wa Tryz.func262 (x:=Ze.h) (R0 f)
def YN.h:Hn:=.q .o1 (.q (.q (.cU (.seq [.op,.op,.op,.op,.cZ false 2 [.op,.op],.op,.cZ false 6 (RI.ops 6)])) .aK) (.q .gE .aL))
def YN.v (a:R2)(b:Int)(c:Hp)(d:aO):Prop:=Ys.c a c λe f=>bX (λg h=>bX (λi j=>If i (d false j) (XL.c a b j λk l m n=>d m n)) λo=>If g (o true h) (bE a 0 h λq=>o (decide (b≥q)) h)) λr=>If (!e) (r true f) (r (decide (b<0)) f)
theorem YN.o {a b c d}(e:YN.v a b c d):YN.c a b c d:=Wa Tryz.func263 (x:=YN.h) (R0 e)
def ZM.h:Hn:=.q .o2 (.k (.loop [(6,.I)] (.q (.q .o5 (.c .l .l)) (.k (.q .gE (.q .o9 (.q .o5 (.q .o6 (.q (.q .o4 (.q .o3 (.c .o6 .l))) .o2)))))))))
def ZM.v (a:R2)(b c:Int)(d:Hp)(e:aP):Prop:=X9 [bO] (λf=>f b d) λg (h:Int) i=>bM (b+c) λj=>If (h<j) (XL.c a h i λk l m n=>bF a 1 n λp=>Ix p.a p.len k 1 λq=>lO q n λr=>l5 .i64 .b r l n λs=>Nn k<|bM ((1:Int)*2^(min k.toNat IntKind.i64.bits)) λt=>bM (l+t) λu=>bM (h-l) λv=>Yh.c a l v s λw=>bM (b+c) λx=>If (u>x) (bM (u-x) λy=>Yh.c a x y w λz=>g u z) (g u w)) (e i)
theorem ZM.o {a b c d e}(f:ZM.v a b c d e):ZM.c a b c d e:=Wa Tryz.func264 (x:=ZM.h) (R0 f)
def X1.h:Hn:=.q .o2 (.q (.k (.q .o4 (.c .aL (.q (.cU (.seq [.op,.op,.op,.cZ false 2 [.op,.op],.op,.cZ false 2 [.op,.op],.op,.cZ false 2 [.op,.op],.op,.cZ false 5 (RI.ops 5),.op])) .aJ)))) (.q (.q .o6 (.k (.loop [(42,.I)] (.q .o1 (.q (.c .l .l) (.q (.k (.q .o5 (.q (.cU (.seq [.op,.op,.op,.op,.op,.op,.op,.cZ true 3 (RI.ops 3)])) (.c (.q .o5 (.q .o4 (.q .o3 .l))) .l)))) .o2)))))) .aL))
def X1.v (a:R2)(b c:Int)(d:Hp)(e:Int->Int->Hp->Prop):Prop:=Ys.c a d λf g=>If (!f) (e 0 5 g) (bX (λh i=>bX (λj k=>bX (λl m=>bX (λn o=>If n (e 0 1 o) (bF a 1 o λq=>X9 [bO] (λr=>r 0 o) λs (t:Int) u=>If (t<((q.len:Nat):Int)) (Ix q.a q.len t 1 λv=>lO v u λw=>Nn t<|bM ((1:Int)*2^(min t.toNat IntKind.i64.bits)) λx=>bX (λy z=>If y (QQ.c w z λaa ab=>VU.c aa ab λac ad=>W7.c ac ad λae af=>ZM.c a ae b af λag=>e ae 0 ag) (bM (t+1) λah=>s ah z)) λai=>If (x≥(if c>b then c else b)) (r9 .i64 .b w u λaj=>ai (decide (aj>0)) u) (ai false u)) (e 0 6 u))) λak=>If l (ak true m) (bM (c-1) λal=>ak ((bits .and .i64 c al) != 0) m)) λam=>If j (am true k) (am (decide (c>1024)) k)) λan=>If h (an true i) (an (decide (c<1)) i)) λao=>If (b<1) (ao true g) (ao (decide (b>1024)) g))
theorem X1.o {a b c d e}(f:X1.v a b c d e):X1.c a b c d e:=Wa Tryz.func286 (x:=X1.h) (R0 f)
def Yh.h:Hn:=.k (.loop [(1,.I),(2,.I)] (.q (.q .o2 (.c .l .l)) (.k (.q .o1 (.q (.k (.loop [(6,.I)] (.q (.q (.cU (.seq [.op,.op,.op,.op,.op,.op,.op,.op,.op,.op,.cZ true 5 (RI.ops 5)])) (.c .l .l)) (.k .o3)))) (.q .o4 (.oq 10)))))))
def Yh.v (a:R2)(b c:Int)(d:Hp)(e:aP):Prop:=X9 [bO,bO] (λf=>f b c d) λg (h:Int) (i:Int) j=>If (i>0) (X9 [bO] (λk=>k 0 j) λl (m:Int) n=>bM (m+1) λo=>Nn o <| bM (m+1) λp=>Nn p<|bM ((h.fdiv (2^(min o.toNat IntKind.i64.bits)))*2^(min p.toNat IntKind.i64.bits)) λq=>bX (λr s=>If r (bM (m+1) λt=>l t s) (Zr.c a m h s λu=>Nn m<|bM ((1:Int)*2^(min m.toNat IntKind.i64.bits)) λv=>bM (h+v) λw=>Nn m<|bM ((1:Int)*2^(min m.toNat IntKind.i64.bits)) λx=>bM (i-x) λy=>g w y u)) λz=>If (q==h) (bM (m+1) λaa=>Nn aa<|bM ((1:Int)*2^(min aa.toNat IntKind.i64.bits)) λab=>z (decide (ab<=i)) n) (z false n)) (e j)
theorem Yh.o {a b c d e}(f:Yh.v a b c d e):Yh.c a b c d e:=Wa Tryz.func301 (x:=Yh.h) (R0 f)
def XL.h:Hn:=.q .o3 (.q (.q .o6 (.k (.loop [(15,.I)] (.q .o1 (.q (.c .l .l) (.q (.k (.q .o5 (.q .o6 (.q .o3 (.c (.q .o5 .l) .l))))) .o2)))))) (.q .o3 .l))
def XL.v (a:R2)(b:Int)(c:Hp)(d:Int->Int->Bool->Hp->Prop):Prop:=bF a 1 c λf=>X9 [bO] (λg=>g 0 c) λh (i:Int) j=>If (i<((f.len:Nat):Int)) (Ix f.a f.len i 1 λk=>lO k j λl=>Nn i <| Nn i<|bM ((b.fdiv (2^(min i.toNat IntKind.i64.bits)))*2^(min i.toNat IntKind.i64.bits)) λm=>Lk .i64 .b l m j λn=>If (n.getD false) (d i m true j) (bM (i+1) λo=>h o j)) (d 0 0 false j)
theorem XL.o {a b c d}(e:XL.v a b c d):XL.c a b c d:=Wa Tryz.func308 (x:=XL.h) (R0 e)
def Zr.h:Hn:=.q (.k (.loop [(1,.I),(2,.I)] (.q (.q (.cU (.quiet [.op,.op,.op,.op,.op,.op,.op,.op,.op,.cZ true 12 (RI.ops 12)])) (.c .l .l)) (.k (.q (.cU (.tail 11 (RI.ops 11) [.op])) (.q .o8 .o3)))))) .o9
def Zr.v (a:R2)(b c:Int)(d:Hp)(e:aP):Prop:=X9 [bO,bO] (λf=>f b c d) λg (h:Int) (i:Int) j=>bM (h+1) λk=>bF a 1 j λm=>bX (λn o=>If n (bF a 1 o λq=>Ix q.a q.len h 1 λr=>lO r o λs=>Nn h<|bM ((1:Int)*2^(min h.toNat IntKind.i64.bits)) λt=>l5 .i64 .b s (bits .xor .i64 i t) o λu=>bM (h+1) λv=>Nn v <| bM (h+1) λw=>Nn w<|bM ((i.fdiv (2^(min v.toNat IntKind.i64.bits)))*2^(min w.toNat IntKind.i64.bits)) λx=>bM (h+1) λy=>g y x u) (bF a 1 o λaa=>Ix aa.a aa.len h 1 λab=>lO ab o λac=>kS .i64 .b ac i true o λad=>e ad)) λae=>If (k<((m.len:Nat):Int)) (bF a 1 j λag=>Ix ag.a ag.len h 1 λah=>lO ah j λai=>Nn h<|bM ((1:Int)*2^(min h.toNat IntKind.i64.bits)) λaj=>Lk .i64 .b ai (bits .xor .i64 i aj) j λak=>ae (ak.getD false) j) (ae false j)
theorem Zr.o {a b c d e}(f:Zr.v a b c d e):Zr.c a b c d e:=Wa Tryz.func325 (x:=Zr.h) (R0 f)
end Go.Proofs
namespace Go.Vc
open Go
variable {ro:Option Nat}{m0:Nat}
def Fw (ro:Option Nat):Fence:={Fence.wide with round:=ro}
theorem ES {P:Program}{f:Nat}{args:Array Value}{w:World}{R:Ending->World->Prop}(h:Calls P f args w R):CallsIn (Fw ro) m0 P f args w R:=by
 cases ro with
 | none=>exact callsIn_wide.2 h
 | some l=>exact CallsIn.inRound l (callsIn_wide.2 h)
theorem Ml {P:Program}{ρ:Operand->Value}{o:Oper}{w:World}{K:Value->Hp->Prop}(h:Kw P (execOp ρ o) w K):∀c,o.op≠.defer c:=by
 intro c hc;have key:∀(s:Sem Deferred) r,((do pure (Next.defer (←s)):Sem Next).run P w=.ok r w->∃d,r=.defer d)/\(∀w',(do pure (Next.defer (←s)):Sem Next).run P w=.ok r w'->∃d,r=.defer d):=by
  intro s r;have:∀w',(do pure (Next.defer (←s)):Sem Next).run P w=.ok r w'->∃d,r=.defer d:=by
   intro w' hr;rw[Sem.run_bind]at hr;cases hs:s.run P w with
   | ok d w2=>
    rw[hs]at hr;simp at hr;exact⟨d,hr.1.symm⟩
   | halt x w2=>
    rw[hs]at hr;simp at hr
  exact⟨this w,this⟩
 have a:execOp ρ o=(do pure (Next.defer (←resolve ρ c o.type)):Sem Next):=by unfold execOp;rw[hc]
 rw[a]at h;rcases h with⟨v,w',hr,_⟩|⟨w',hr,_⟩|⟨f,args,rs,R,hr,_⟩
 .obtain⟨d,hd⟩:=(key _ _).2 w' hr;cases hd
 .obtain⟨d,hd⟩:=(key _ _).2 w' hr;cases hd
 .obtain⟨d,hd⟩:=(key _ _).2 w hr;cases hd
theorem Kw.uponIn {P:Program}{o:Oper}{a:Act}{w:World}{K:Value->Hp->Prop}{next:Act->World->Prop}{Q:Exit->Act->World->Prop}
 (h:Kw P (execOp a.eval o) w K) (hn:∀v w',Xx w w'->K v w'.heap->next (a.put o.dst v) w'):o.wpIn (Fw ro) m0 P a w next Q:=by
 refine⟨λ_ _=>trivial,?_⟩;rw[Oper.semAt_eq _ _ _ (Ml h)];rcases h with⟨v,w',hr,b,hK⟩|⟨w',hr,b,hK⟩|⟨f,args,rs,R,hr,hc,hK⟩
 .rw[hr];exact hn _ _ b hK
 .rw[hr];exact hn _ _ b hK
 .rw[hr];refine⟨λh=>by simp[Fw,Fence.wide]at h,ES ((hc w rfl).mono λe w' ⟨b,vs,g,d⟩=>?_)⟩;subst g;exact hn _ _ b (hK _ _ d)
theorem JI {P:Program}{N:Nat}{ops:Array Oper}{Q:Exit->Act->World->Prop}{tail:List Oper}{w:World}:∀{os:List Oper} {ρ:Env} {a:Act},US N ops os ρ=true->Fits N ρ a →
 (∀a',Fits N (ρ.eC (os.filterMap (·.dst))) a'->wpListIn (Fw ro) m0 P ops Q tail a' w)->wpListIn (Fw ro) m0 P ops Q (os++tail) a w
 | [],ρ,a,_,hf,h=>h a (hf.weaken (yA _ _))
 | o::os,ρ,a,hs,hf,h=>by
  simp only[US,zF]at hs;obtain⟨h1,h2,h3⟩:=hs;have p:=Vv hf h1;simp only[lN,wpListIn,p];refine⟨λ_ _=>trivial,?_⟩;refine JI h3 (hf.put h2 _) λa' m=>h a' (m.weaken λi v b=>?_);simp only[Env.eC]at b ⊢;cases hc:(List.filterMap (·.dst) (o::os)).contains i
  .rw[hc]at b;simp only[cond_false]at b;have j:(List.filterMap (·.dst) os).contains i=false:=by
    cases hd:o.dst<;>simp_all
   have g:∀d,o.dst=some d->i≠d:=by
    intro d hd;simp_all
   rw[j];simp only[cond_false];cases hd:o.dst with
   | none=>exact b
   | some d=>
    have:=g d hd;simp only[Env.il,Env.put];have:Nat.beq i d=false:=by
     cases hb:Nat.beq i d
     .rfl
     .exact absurd (kf hb) this
    rw[this];exact b
  .rw[hc]at b;cases b
theorem Vx {P:Program}{N:Nat}{ops:Array Oper}{Q:Exit->Act->World->Prop}:∀(n:Nat) {hs:List RI} {os:List Oper} {tail:List Oper} {ρ:Env} {a:Act} {w:World} {K:Env->Hp->Prop},
 eJ P N ops n hs os ρ w.heap K->Fits N ρ a->(∀ρ' a' w',Fits N ρ' a'->Xx w w'->Ug os ρ ρ'->K ρ' w'.heap->wpListIn (Fw ro) m0 P ops Q tail a' w')->wpListIn (Fw ro) m0 P ops Q (os++tail) a w
 | 0,_,_,_,_,_,_,_,h,_,_=>(by simp only[eJ]at h)
 | n+1,[],[],tail,ρ,a,w,K,h,hf,hK=>by
  simp only[eJ]at h;exact hK ρ a w hf (.refl _) (λ_ _ _ h=>h) h
 | n+1,[],o::os,tail,ρ,a,w,K,h,hf,hK=>(by simp only[eJ]at h)
 | n+1,.op::hs,[],tail,ρ,a,w,K,h,hf,hK=>(by simp only[eJ]at h)
 | n+1,.op::hs,o::os,tail,ρ,a,w,K,h,hf,hK=>by
  simp only[eJ]at h;rw[WJ]at h;obtain⟨hc,h⟩:=h;simp only[zF]at hc;have M:=ZL hf hc.1;simp only[lN,wpListIn,M,zT];refine Kw.uponIn (U6 hf.ev o h) λv w' D s=>?_;exact Vx n s (hf.put hc.2 v) λρ' a' A g p F u=>hK ρ' a' A g (D.trans p) F.cons u
 | n+1,.it ki c::hs,[],tail,ρ,a,w,K,h,hf,hK=>(by simp only[eJ]at h)
 | n+1,.it ki c::hs,o::os,tail,ρ,a,w,K,h,hf,hK=>by
  simp only[eJ]at h;rw[WJ]at h;obtain⟨hc,h⟩:=h;simp only[zF]at hc;have M:=ZL hf hc.1;simp only[lN,wpListIn,M,zT];refine Kw.uponIn (Ij hf.ev o h) λv w' D s=>?_;exact Vx n s (hf.put hc.2 v) λρ' a' A g p F u=>hK ρ' a' A g (D.trans p) F.cons u
 | n+1,.cZ and m inner::hs,os,tail,ρ,a,w,K,h,hf,hK=>by
  simp only[eJ]at h;split at h
  case h_2=>exact h.elim
  rename_i pk rest hdrop;split at h
  case h_2=>exact h.elim
  rename_i c x y d hop hd;split at h
  case h_2=>exact h.elim
  rename_i b hb;rw[WJ]at h;obtain⟨hc,J,hJ,h⟩:=h;simp only[zF]at hc;obtain⟨R,U,W,ab,C⟩:=hc;have ad:sv N pk.dst=true:=by rw[hd];exact R
  have ac:os++tail=os.take m++(pk::rest++tail):=by
   rw[←hdrop,←zl,oQ]
  rw[ac];have j:∀(r b':Bool) (z:Operand) a' w',b=b'->(bif b' then x else y)=z->Fits N (ρ.eC ((os.take m).filterMap (·.dst))) a'->Xx w w'->J r w'.heap->Region.wanted pk (yielded ops a'.tmps)=true →
   a'.eval (.tmp c)=.bool b'->a'.eval z=.bool r->wpListIn (Fw ro) m0 P ops Q (pk::rest++tail) a' w':=by
   intro r b' z a' w' e ez g D L M E hez;simp only[lN,wpListIn,M,zT];refine Kw.uponIn (K:=λv Z=>v=.bool r/\Z=w'.heap) (IT hop E (by rw[ez];exact hez) ⟨rfl,rfl⟩) λv A p s=>?_;obtain⟨rfl,hh⟩:=s;have aa:=g.put (d:=some d) R (.bool r);rw[hd];have V:=hJ _ _ L;rw[←hh]at V;exact Vx n V aa λρ' Y w3 G S F u=>hK ρ' Y w3 G ((D.trans p).trans S) (Ug.cZ hd hdrop F) u
  have run:∀(b':Bool) (z:Operand),b=b'->(bif b' then x else y)=z →
   eJ P N ops n inner (os.take m) (ρ.put c (.bool b')) w.heap (λρ' Z=>fU (oF ops pk ρ'&&sR ρ' c b') (UO ρ' z λr=>J r Z))->wpListIn (Fw ro) m0 P ops Q (os.take m++(pk::rest++tail)) a w:=by
   intro b' z e ez hseg;refine Vx n hseg (hf.lit hb e) λρ' a' w' g D F s=>?_;rw[WJ]at s;simp only[zF]at s;obtain⟨⟨hg,X⟩,s⟩:=s;obtain⟨r,hr,L⟩:=Vd s;exact j r b' z a' w' e ez (g.vA hb e F) D L (ZL g hg) (g.ev _ _ (U5 X)) (g.ev _ _ hr)
  have B:∀(b':Bool),b=b'->b' = !and->J (!and) w.heap->wpListIn (Fw ro) m0 P ops Q (os.take m++(pk::rest++tail)) a w:=by
   intro b' e eb L;subst eb;refine JI C (hf.lit hb e) λa' g=>?_;have H:Fits N (ρ.eC ((os.take m).filterMap (·.dst))) a':=g.vA (ρ':=(ρ.put c (.bool (!and))).eC ((os.take m).filterMap (·.dst))) hb e (λi hi v hv=>by simp only[Env.eC,hi];exact hv);have E:=g.ev (.tmp c) _ (U5 ab);refine j (!and) (!and) (bif (!and)then x else y) a' w e rfl H (.refl _) L (ZL H W) E ?_;refine D0 ?_ _ (λv=>rfl);cases and<;>exact U
  cases and
  .simp only[cond_false]at h;cases b
   .exact run false y rfl rfl (h.f rfl)
   .exact B true rfl rfl (h.t rfl)
  .simp only[cond_true]at h;cases b
   .exact B false rfl rfl (h.f rfl)
   .exact run true x rfl rfl (h.t rfl)
end Go.Vc
namespace Go.Vc
open Go
variable {ro:Option Nat}{m0:Nat}{P:Program}
def Act.wd (a:Act)(ds:List Deferred):Act:={a with defers:=ds}
theorem ug (a:Act)(ds:List Deferred)(d:Option Nat)(v:Value):(Act.wd a ds).put d v=Act.wd (a.put d v) ds:=by cases d<;>rfl
theorem CQ (a:Act)(d e:List Deferred):Act.wd (Act.wd a d) e=Act.wd a e:=rfl
theorem Up {a:Act}{ds:List Deferred}(h:a.defers=ds):Act.wd a ds=a:=by subst h;rfl
def jS (P:Program)(o:Oper):Bool:=match o.op with
 | .call c=>match c.callee with
  | .value (.func f)=>Ut P f
  | _=>false
 | .move _ | .assign _ | .alloc _ | .box _ _ | .build _ _ | .buildSlice _ _ _ | .load _ _ | .store _ _ _ | .binOp _ _ _ _ _ | .unOp _ _ _ | .fieldAddr _ _ _ | .indexAddr _ _ _ | .lookup _ _ _ _ | .mapUpdate _ _ _ _ | .extract _ _ | .nilCheck _ | .pick _ _ _=>true
 | _=>false
theorem Of {s:Sem Value}{w w':World}{r:Next}(h:(do pure (Next.value (←s)):Sem Next).run P w=.ok r w'):∃v,r=.value v:=by
 rw[Sem.run_bind]at h;cases hs:s.run P w with
 | ok d w2=>rw[hs]at h;simp at h;exact⟨d,h.1.symm⟩
 | halt x w2=>rw[hs]at h;simp at h
theorem Sj {s:Sem Unit}{w w':World}{r:Next}(h:(do s;pure Next.skip:Sem Next).run P w=.ok r w'):r=.skip:=by
 rw[Sem.run_bind]at h;cases hs:s.run P w with
 | ok d w2=>rw[hs]at h;simp at h;exact h.1.symm
 | halt x w2=>rw[hs]at h;simp at h
def PO (r:Next):Prop:=(∃v,r=.value v)\/r=.skip\/∃f args,r=.enter f args
theorem D9 {α:Type}{s:Sem α}{f:α->Sem Next}{w w':World}{r:Next}(h:(s >>= f).run P w=.ok r w'):∃x w2,(f x).run P w2=.ok r w':=by
 rw[Sem.run_bind]at h;cases hs:s.run P w with
 | ok d w2=>rw[hs]at h;exact⟨d,w2,h⟩
 | halt x w2=>rw[hs]at h;simp at h
theorem yZ {x r:Next}{w w':World}(h:(pure x:Sem Next).run P w=.ok r w'):r=x:=by rw[Sem.run_pure]at h;cases h;rfl
theorem yT {r:Next}{w w':World}(h:(runtimePanic .nilDeref:Sem Next).run P w=.ok r w'):False:=by simp[runtimePanic,goPanic,Sem.run,go_sem]at h
theorem Td {a:Act}{o:Oper}{w w':World}{r:Next}(hk:jS P o=true)(h:(execOp a.eval o).run P w=.ok r w'):PO r:=by
 unfold jS at hk;unfold execOp at h;cases ho:o.op<;>rw[ho]at hk h<;>simp only at hk h<;>first
  | exact .inl (Of h)
  | exact .inr (.inl (Sj h))
  | cases hk
  | skip
 case move x=>rw[Sem.run_pure]at h;cases h;exact .inl ⟨_,rfl⟩
 case assign x=>rw[Sem.run_pure]at h;cases h;exact .inl ⟨_,rfl⟩
 case pick c x y=>
  rw[Sem.run_bind]at h;cases hs:(asBool (a.eval c)).run P w with
  | ok d g=>rw[hs]at h;simp at h;exact .inl ⟨_,h.1.symm⟩
  | halt x g=>rw[hs]at h;simp at h
 case call c=>
  obtain⟨callee,args,b⟩:=c;simp only at hk h;split at hk
  .rename_i f;have i:=V0 hk (args.map a.eval) w;have j:(do let d ←resolve a.eval {callee:=.value (.func f),args:=args,argTypes:=b} o.type;invoke d.target d.args:Sem Next).run P w=(callFunc f (args.map a.eval)).run P w:=by
    simp[resolve,Act.eval,Deferred.ofValue,invoke]
   rw[j,i]at h;cases h;exact .inr (.inr ⟨_,_,rfl⟩)
  .cases hk
 case nilCheck x=>
  split at h
  .exact(yT h).elim
  .exact(yT h).elim
  .exact(yT h).elim
  .split at h
   .exact(yT h).elim
   .obtain⟨y,g,h⟩:=D9 h;obtain⟨z,p,h⟩:=D9 h;split at h
    .obtain⟨y,m,h⟩:=D9 h;exact .inl ⟨_,yZ h⟩
    .exact .inl ⟨_,yZ h⟩
   .exact .inl ⟨_,yZ h⟩
  .exact .inl ⟨_,yZ h⟩
theorem Il {o:Oper}{a:Act}{w:World}{ds:List Deferred}{next next':Act->World->Prop}{Q Q':Exit->Act->World->Prop}(hk:jS P o=true)(h:o.wp P (Act.wd a []) w next Q')
 (hn:∀a' w',next a' w'->a'.defers=[]->next' (Act.wd a' ds) w') (hp:∀c a w,¬Q' (.panic c) a w) (ho:∀a w,¬Q' .outgrown a w):o.wpIn (Fw ro) m0 P (Act.wd a ds) w next' Q:=by
 have g:∀c,o.op≠.defer c:=λc j=>by unfold jS at hk;rw[j]at hk;cases hk
 refine⟨λ_ _=>trivial,?_⟩;rw[Oper.semAt_eq _ _ _ g];unfold Oper.wp at h;have m:(execOp (Act.wd a []).eval o)=execOp (Act.wd a ds).eval o:=rfl;rw[m]at h;have hd:∀v,((Act.wd a []).put o.dst v).defers=[]:=λv=>by rw[ug];rfl
 have d:∀v,Act.wd ((Act.wd a []).put o.dst v) ds=(Act.wd a ds).put o.dst v:=λv=>by rw[ug,ug,CQ]
 cases hr:(execOp (Act.wd a ds).eval o).run P w with
 | ok r w'=>
  rw[hr]at h;rcases Td hk hr with⟨v,rfl⟩|rfl|⟨f,args,rfl⟩
  .rw[Oper.uponIn_value,←d];exact hn _ _ h (hd v)
  .rw[Oper.uponIn_skip,←d];exact hn _ _ h (hd _)
  .refine⟨λh=>by simp[Fw,Fence.wide]at h,ES (Calls.mono h λe i b=>?_)⟩;cases e with
   | returned v=>
    show next' ((Act.wd a ds).put o.dst v) i;rw[←d];exact hn _ _ b (hd v)
   | panicked chain=>exact(hp _ _ _ b).elim
   | outgrown=>obtain⟨p,w0,b⟩:=b;exact(ho _ _ b).elim
 | halt x w'=>
  rw[hr]at h;cases x<;>first
   | exact(hp _ _ _ h).elim
   | exact h.elim
theorem Sw {ops:Array Oper}{i:Nat}{a:Act}{w:World}{ds:List Deferred}{next next':Act->World->Prop}{Q Q':Exit->Act->World->Prop}(hk:∀o∈ops,jS P o=true)(h:wpOp P ops Q' i next (Act.wd a []) w)
 (hn:∀a' w',next (Act.wd a' []) w'->next' (Act.wd a' ds) w') (hp:∀c a w,¬Q' (.panic c) a w) (ho:∀a w,¬Q' .outgrown a w):wpOpIn (Fw ro) m0 P ops Q i next' (Act.wd a ds) w:=by
 unfold wpOp at h;unfold wpOpIn;cases hi:ops[i]? with
 | none=>rw[hi]at h;exact hn _ _ h
 | some o=>
  rw[hi]at h;simp only at h ⊢;have d:yielded ops (Act.wd a []).tmps=yielded ops (Act.wd a ds).tmps:=rfl;rw[d]at h;split
  .rename_i hw;rw[zC hw]at h;rcases h with h|⟨_,a0,w0,hq⟩
   .exact Il (hk o (AN hi)) h (λa' w' b hd=>hn a' w' (by rw[Up hd];exact b)) hp ho
   .exact(ho _ _ hq).elim
  .rename_i hw;rw[zB hw,ug]at h;refine⟨λ_ _=>trivial,?_⟩;rw[ug];exact hn _ _ h
theorem CB {ops:Array Oper}{ds:List Deferred}{Q Q':Exit->Act->World->Prop}(hk:∀o∈ops,jS P o=true)(hp:∀c a w,¬Q' (.panic c) a w)(ho:∀a w,¬Q' .outgrown a w)(hN:∀a w,Q' .normal (Act.wd a []) w->Q .normal (Act.wd a ds) w) :
 ∀(m:Nat) (listed:Array Bool) (a:Act) (w:World),wpAny P .any ops Q' m listed (Act.wd a []) w->wpAnyIn (Fw ro) m0 P .any ops Q m listed (Act.wd a ds) w
 | 0,listed,a,w,h=>⟨h.1,hN _ _ h.2⟩
 | m+1,listed,a,w,h=>⟨λe=>hN _ _ (h.1 e),λi hi=>Sw hk (h.2 i hi) (λa' w' h'=>CB hk hp ho hN m _ a' w' h') hp ho⟩
theorem Dt {ops:Array Oper}{ds:List Deferred}{Q Q':Exit->Act->World->Prop}(hp:∀c a w,¬Q' (.panic c) a w)(ho:∀a w,¬Q' .outgrown a w)(hN:∀a w,Q' .normal (Act.wd a []) w->Q .normal (Act.wd a ds) w) :
 ∀(l:List Oper) (a:Act) (w:World),(∀o∈l,jS P o=true)->wpList P ops Q' l (Act.wd a []) w->wpListIn (Fw ro) m0 P ops Q l (Act.wd a ds) w
 | [],a,w,_,h=>hN _ _ h
 | o::l,a,w,hk,h=>by
  have hl:=λm b=>hk m (l7 _ b);unfold wpList at h;unfold wpListIn;have i:yielded ops (Act.wd a []).tmps=yielded ops (Act.wd a ds).tmps:=rfl;rw[i]at h;split
  .rename_i hw;rw[zC hw]at h;rcases h with h|⟨_,a0,w0,hq⟩
   .exact Il (hk o mL) h (λg j d hd=>Dt hp ho hN l g j hl (by rw[Up hd];exact d)) hp ho
   .exact(ho _ _ hq).elim
  .rename_i hw;rw[zB hw,ug]at h;refine⟨λ_ _=>trivial,?_⟩;rw[ug];exact Dt hp ho hN l _ w hl h
structure mu (ds:List Deferred) (N:Nat) (ρ:Env) (a:Act):Prop where
 f:Fits N ρ (Act.wd a [])
 d:a.defers=ds
theorem mu.ev {ds:List Deferred}{N:Nat}{ρ:Env}{a:Act}(h:mu ds N ρ a):∀x v,ev ρ x=some v->a.eval x=v:=λx v b=>h.f.ev x v b
def Dr (Q:Act->World->Prop):Exit->Act->World->Prop
 | .normal,a,w=>Q a w
 | _,_,_=>False
def pG (P:Program)(dz:Bool)(ops:Array Oper)(draw:Bool):RH->Bool
 | .seq _=>!draw&&(dz||ops.all (jS P))
 | .held _ _ _=>draw&&ops.all (jS P)
 | .gM _ _ _ _=>draw&&ops.all (jS P)
 | _=>false
theorem Eg {ops:Array Oper}(h:ops.all (jS P)=true):∀o∈ops,jS P o=true:=λo a=>by rw[Array.all_eq_true']at h;exact h o a
theorem Jz {N id:Nat}{ops:Array Oper}{sm:Bool}{C:List Nat}{sh:SH}{K:Env->Hp->Prop}{ρ:Env}{a:Act}{w:World}{Q:Act->World->Prop}
 (hsel:Region.noSelect ops=true) (h:Ac P N sm C sh ops ρ w.heap K)
 (hf:Fits N ρ a) (hK:∀ρ' a' w',Fits N ρ' a'->Xx w w'->Ug ops.toList ρ ρ'->K ρ' w'.heap->Q a' w'):wpAny P .any ops (Dr Q) ops.size (Array.replicate ops.size false) a {w with drawn:=w.drawn+1}:=by
 have hd:Xx w {w with drawn:=w.drawn+1}:=⟨rfl,rfl,rfl,zD _⟩;have e:Dr Q=λe a w=>match e with | .normal=>Q a w|_=>False:=by funext e a w;cases e<;>rfl
 rw[e];cases sm
 .exact Uz _ _ _ _ (Qy (S:=λ_=>True) (w:={w with drawn:=w.drawn+1}) (Qn:=Q) hsel (λ_ _=>trivial) 400 ops.size h hf (iq.start ops) (.inl trivial) λρ' a' w' b d i g=>hK ρ' a' w' b (hd.trans d) i g)
 .obtain⟨S,j,h⟩:=h;exact Uz _ _ _ _ (Qy (S:=S) (w:={w with drawn:=w.drawn+1}) (Qn:=Q) hsel (λe=>by cases e) 400 ops.size h hf (iq.start ops) (.inl j) λρ' a' w' b d i g=>hK ρ' a' w' b (hd.trans d) i g)
theorem MJ {N id:Nat}{r:RH}{ops:Array Oper}{draw:Bool}{ρ:Env}{a:Act}{w:World}{K:Env->Hp->Prop}{Q:Exit->Act->World->Prop}{ds:List Deferred}
 (h:mQ P N r ops draw ρ w.heap K) (ho:pG P ds.isEmpty ops draw r=true) (hf:mu ds N ρ a) (hK:∀ρ' a' w',mu ds N ρ' a'->Xx w w'->K ρ' w'.heap->Q .normal a' w'):(Code.region id ops draw).wpIn (Fw ro) m0 P Q a w:=by
 have G:Act.wd (Act.wd a []) ds=a:=by rw[CQ];exact Up hf.d
 have j:∀ρ' a' w',Fits N ρ' a'->Xx w w'->K ρ' w'.heap->Q .normal (Act.wd a' ds) w':=λρ' a' w' b g i=>hK ρ' _ w' ⟨by rw[CQ,Up b.defers];exact b,rfl⟩ g i;unfold mQ at h;split at h
 .rename_i B;simp only[pG,x8,r8,nS]at ho;refine wpIn_region_list ?_;rcases ho with ho|ho
  .have y:ds=[]:=by cases ds<;>simp at ho;rfl
   subst y;have z:Act.wd a []=a:=G;rw[←z];have:=Vx (ro:=ro) (m0:=m0) (Q:=Q) (tail:=[]) 400 h hf.f λρ' a' w' b g s i=>by
    have:=j ρ' a' w' b g i;rw[Up b.defers]at this;exact this
   simpa using this
  .have:=Ve (Q:=Dr λa' w'=>Q .normal (Act.wd a' ds) w') (tail:=[]) 400 h hf.f λρ' a' w' b g s i=>j ρ' a' w' b g i;have m:=Dt (ro:=ro) (m0:=m0) (ds:=ds) (Q:=Q) (ops:=ops) (λ_ _ _ h=>h) (λ_ _ h=>h) (λa w h=>h) ops.toList a w (λo x=>Eg ho o (by simpa using x)) (by simpa using this);rw[Up hf.d]at m;exact m
 .cases ho
 .cases ho
 .rename_i sm sh;rw[WJ]at h;simp only[zF]at h;simp only[pG,r8]at ho;refine wpIn_region_any h.1.1 ?_;have u:=Jz (id:=id) (Q:=λa' w'=>Q .normal (Act.wd a' ds) w') h.1.2 h.2 hf.f λρ' a' w' b g s i=>j ρ' a' w' b g i;have m:=CB (ro:=ro) (m0:=m0) (ds:=ds) (Q:=Q) (Eg ho) (λ_ _ _ h=>h) (λ_ _ h=>h) (λa w h=>h) _ _ _ _ u;rw[Up hf.d]at m;exact m
 .rename_i sm js sh;rw[WJ]at h;simp only[zF]at h;simp only[pG,r8]at ho;obtain⟨⟨F,p,C⟩,J,E,h⟩:=h;refine wpIn_region_any F ?_;have u:=Jz (id:=id) (Q:=λa' w'=>Q .normal (Act.wd a' ds) w') p h hf.f λρ' a' w' b g s i=>by
   obtain⟨vs,D,B⟩:=Hy i;have A:=UB (B.mono E);exact j _ a' w' (KW js (Uh b s) b D) g A
  have m:=CB (ro:=ro) (m0:=m0) (ds:=ds) (Q:=Q) (Eg ho) (λ_ _ _ h=>h) (λ_ _ h=>h) (λa w h=>h) _ _ _ _ u;rw[Up hf.d]at m;exact m
 .exact h.elim
def oH (P:Program)(dz:Bool):Code->Hn->Bool
 | .skip,_=>true
 | .ret,_=>true
 | .exit _,_=>true
 | .region _ ops d,.cU r=>pG P dz ops d r
 | .seq a b,.seq x y=>oH P dz a x&&oH P dz b y
 | .cond _ a b,.cond x y=>oH P dz a x&&oH P dz b y
 | .block _ b,.block x=>oH P dz b x
 | _,_=>false
theorem KI {N:Nat}{ds:List Deferred}:∀(c:Code) {x:Hn} {Q:Exit->Env->Hp->Prop} {Q':Exit->Act->World->Prop} {ρ:Env} {a:Act} {w:World},
 iM P N c x Q ρ w.heap->oH P ds.isEmpty c x=true->mu ds N ρ a->(∀e ρ' a' w',mu ds N ρ' a'->Xx w w'->Q e ρ' w'.heap->Q' e a' w')->c.wpIn (Fw ro) m0 P Q' a w
 | .skip,x,Q,Q',ρ,a,w,h,ho,hf,hq=>by
  have h':Q .normal ρ w.heap:=by cases x<;>exact h
  exact wpIn_skip (hq _ ρ a w hf (.refl _) h')
 | .ret,x,Q,Q',ρ,a,w,h,ho,hf,hq=>by
  have h':Q .ret ρ w.heap:=by cases x<;>exact h
  exact wpIn_ret (hq _ ρ a w hf (.refl _) h')
 | .exit id,x,Q,Q',ρ,a,w,h,ho,hf,hq=>by
  have h':Q (.exit id) ρ w.heap:=by cases x<;>exact h
  exact wpIn_exit (hq _ ρ a w hf (.refl _) h')
 | .region id ops d,x,Q,Q',ρ,a,w,h,ho,hf,hq=>by
  cases x<;>simp only[iM]at h
  exact MJ h ho hf λρ' a' w' b j g=>hq _ ρ' a' w' b j g
 | .seq c1 c2,x,Q,Q',ρ,a,w,h,ho,hf,hq=>by
  cases x<;>simp only[iM]at h
  case seq x y=>
   simp only[oH,zF]at ho;refine wpIn_seq (KI c1 h ho.1 hf λe ρ' a' w' b j g=>?_);cases e
   case normal=>exact KI c2 g ho.2 b λe r s u m A z=>hq e r s u m (j.trans A) z
   all_goals exact hq _ ρ' a' w' b j g
  case kx=>cases ho
 | .cond c c1 c2,x,Q,Q',ρ,a,w,h,ho,hf,hq=>by
  cases x<;>simp only[iM]at h
  simp only[oH,zF]at ho;obtain⟨t,B,h⟩:=Vd h;refine wpIn_cond_split (hf.ev _ _ B) (λe=>?_) (λe=>?_)
  .exact KI c1 (h.t e) ho.1 hf hq
  .exact KI c2 (h.f e) ho.2 hf hq
 | .block id c1,x,Q,Q',ρ,a,w,h,ho,hf,hq=>by
  cases x<;>simp only[iM]at h
  refine wpIn_block (KI c1 h ho hf λe ρ' a' w' b j g=>?_);cases e
  case exit i=>
   simp only[xf]at g;simp only[Exit.inBlock];split at g
   .rename_i e;have p:i=id:=kf e;rw[zC p];exact hq _ ρ' a' w' b j g
   .rename_i e;have p:i≠id:=λh=>by subst h;simp at e
    rw[zB p];exact hq _ ρ' a' w' b j g
  all_goals exact hq _ ρ' a' w' b j g
 | .loop ..,x,Q,Q',ρ,a,w,h,ho,hf,hq=>(by cases x<;>cases ho)
 | .scope ..,x,Q,Q',ρ,a,w,h,ho,hf,hq=>(by cases x<;>cases ho)
 | .label ..,x,Q,Q',ρ,a,w,h,ho,hf,hq=>(by cases x<;>cases ho)
 | .rangeFunc ..,x,Q,Q',ρ,a,w,h,ho,hf,hq=>(by cases x<;>cases ho)
 | .goto ..,x,Q,Q',ρ,a,w,h,ho,hf,hq=>(by cases x<;>cases ho)
 | .refuse ..,x,Q,Q',ρ,a,w,h,ho,hf,hq=>(by cases x<;>cases ho)
def HJ (P:Program)(l:Nat)(args:List Value)(h:Hp)(R:aO):Prop:=
 ∀w:World,w.heap=h->∃fn tmps asg bd,(Instr.yield l args.toArray).run P w=.ok (.round l fn tmps asg bd) w/\RoundIn Fence.wide 0 P l fn tmps asg bd w λe w'=>Xx w w'/\∃b,e=.returned (.bool b)/\R b w'.heap
def yK (P:Program)(o:Oper)(ρ:Env)(h:Hp)(K:Value->Hp->Prop):Prop:=match o.op with
 | .call c=>match c.callee with
  | .value (.tmp t)=>match ρ t,qR ρ c.args.toList with
   | some (.func (.yield l) first cap),some args=>fU (first.isEmpty&&cap.isEmpty) (HJ P l args h λb h'=>K (.bool b) h')
   | _,_=>False
  | _=>sW P o.op o.type ρ h K
 | _=>sW P o.op o.type ρ h K
theorem R8 {ρ:Env}{o:Oper}{a:Act}{w:World}{K:Value->Hp->Prop}{next:Act->World->Prop}{Q:Exit->Act->World->Prop}(hf:∀x v,ev ρ x=some v->a.eval x=v)
 (h:yK P o ρ w.heap K) (hn:∀v w',Xx w w'->K v w'.heap->next (a.put o.dst v) w'):o.wpIn (Fw ro) m0 P a w next Q:=by
 have d:sW P o.op o.type ρ w.heap K->o.wpIn (Fw ro) m0 P a w next Q:=λh=>Kw.uponIn (U6 hf o h) hn
 unfold yK at h;split at h
 .rename_i c hc;split at h
  .rename_i t ht;split at h
   .rename_i l first cap args hρ hargs
    rw[WJ]at h;obtain⟨g,h⟩:=h;simp only[zF,Ab]at g;obtain⟨rfl,rfl⟩:=g;have u:∀c,o.op≠.defer c:=λL A=>by rw[hc]at A;cases A
    refine⟨λ_ _=>trivial,?_⟩;rw[Oper.semAt_eq _ _ _ u];obtain⟨B,j,r,F,H,G⟩:=h w rfl;have e1:=Qe hf hargs;have i:c.args.map a.eval=args.toArray:=by apply Array.ext';simpa using e1
    have e2:a.eval (.tmp t)=.func (.yield l) #[] #[]:=hf (.tmp t) _ hρ;have m:(execOp a.eval o).run P w=.ok (.round l B j r F) w:=by
     obtain⟨dst,op,M,pos,s,y⟩:=o;simp only at hc;subst hc;obtain⟨p,z,C⟩:=c;simp only at ht i;subst ht;simpa[execOp,resolve,i,e2,Deferred.ofValue,invoke]using H
    rw[m];refine⟨λh=>by simp[Fw,Fence.wide]at h,?_⟩;refine RoundIn.mono (R:=λe w'=>Xx w w'/\∃b,e=.returned (.bool b)/\K (.bool b) w'.heap) ⟨trivial,λc D _=>G.2 c D (room_wide _)⟩ ?_;rintro e w' ⟨E,b,rfl,J⟩;exact hn _ _ E J
   .exact h.elim
  .exact d h
 .exact d h
def zx (P:Program)(N:Nat):List Oper->Env->Hp->(Env->Hp->Prop)->Prop
 | [],ρ,h,K=>K ρ h
 | o::os,ρ,h,K=>fU (sv N o.dst&&o.guard.isNone) (yK P o ρ h λv h'=>zx P N os (ρ.il o.dst v) h' K)
theorem JT {N:Nat}{ops:Array Oper}{Q:Exit->Act->World->Prop}:∀{os:List Oper} {ρ:Env} {a:Act} {w:World} {K:Env->Hp->Prop},
 zx P N os ρ w.heap K->Fits N ρ a->(∀ρ' a' w',Fits N ρ' a'->Xx w w'->Ug os ρ ρ'->K ρ' w'.heap->Q .normal a' w')->wpListIn (Fw ro) m0 P ops Q os a w
 | [],ρ,a,w,K,h,hf,hK=>hK ρ a w hf (.refl _) (λ_ _ _ h=>h) h
 | o::os,ρ,a,w,K,h,hf,hK=>by
  simp only[zx]at h;rw[WJ]at h;obtain⟨hc,h⟩:=h;simp only[zF,Option.isNone_iff_eq_none]at hc;have m:Region.wanted o (yielded ops a.tmps)=true:=by simp[Region.wanted,hc.2]
  simp only[wpListIn,m,zT];refine R8 hf.ev h λv w' j p=>?_;exact JT p (hf.put hc.1 v) λρ' a' d b i r g=>hK ρ' a' d b (j.trans i) r.cons g
def gZ (P:Program)(N:Nat):Code->Hn->(Exit->Env->Hp->Prop)->Env->Hp->Prop
 | .skip,_,Q,ρ,h=>Q .normal ρ h
 | .ret,_,Q,ρ,h=>Q .ret ρ h
 | .exit id,_,Q,ρ,h=>Q (.exit id) ρ h
 | .region _ ops d,.cU r,Q,ρ,h=>mQ P N r ops d ρ h λρ' h'=>Q .normal ρ' h'
 | .region _ ops false,.leaf,Q,ρ,h=>zx P N ops.toList ρ h λρ' h'=>Q .normal ρ' h'
 | .seq a b,.seq x y,Q,ρ,h=>gZ P N a x (vP (λρ' h'=>gZ P N b y Q ρ' h') Q) ρ h
 | .cond c a b,.cond x y,Q,ρ,h=>UO ρ c λt=>If t (gZ P N a x Q ρ h) (gZ P N b y Q ρ h)
 | .block id b,.block x,Q,ρ,h=>gZ P N b x (xf id Q) ρ h
 | .loop b,.loop js x,Q,ρ,h=>fU (js.all λs=>m5 (fQ b) s.1)
  (X9 (mE js) (λI=>sH js ρ I h) λJ=>lam (mE js) λvs h'=>gZ P N b x (vP (λρ' h''=>sH js ρ' J h'') Q) (iD (ρ.eC (fQ b)) js vs) h')
 | _,_,_,_,_=>False
theorem Ω {F:Fence}{c:Code}{Q:Exit->Act->World->Prop}{a:Act}{w:World}(I:Nat->Act->World->Prop)(h0:∃n,I n a w)
 (round:∀n a w,I n a w->c.wpIn F m0 P (Exit.then (λa' w'=>∃m,m<n/\I m a' w') Q) a w):(Code.loop c).wpIn F m0 P Q a w:=by
 refine wpIn_loop (λa w=>∃n,I n a w) (λa w=>wx λn=>I n a w) h0 λa w g=>?_;refine wpIn_mono (round _ a w (Jf g)) λe a' w' d=>?_;cases e<;>try exact d
 obtain⟨m,i,b⟩:=d;exact⟨⟨m,b⟩,Dh (FE b) i⟩
theorem Vh {N:Nat}:∀(c:Code) {x:Hn} {Q:Exit->Env->Hp->Prop} {Q':Exit->Act->World->Prop} {ρ:Env} {a:Act} {w:World},
 gZ P N c x Q ρ w.heap->Fits N ρ a->(∀e ρ' a' w',Fits N ρ' a'->Xx w w'->VA (fQ c) ρ ρ'->Q e ρ' w'.heap->Q' e a' w')->c.wpIn (Fw none) m0 P Q' a w
 | .skip,x,Q,Q',ρ,a,w,h,hf,hq=>by
  have h':Q .normal ρ w.heap:=by cases x<;>exact h
  exact wpIn_skip (hq _ ρ a w hf (.refl _) (.refl _ _) h')
 | .ret,x,Q,Q',ρ,a,w,h,hf,hq=>by
  have h':Q .ret ρ w.heap:=by cases x<;>exact h
  exact wpIn_ret (hq _ ρ a w hf (.refl _) (.refl _ _) h')
 | .exit id,x,Q,Q',ρ,a,w,h,hf,hq=>by
  have h':Q (.exit id) ρ w.heap:=by cases x<;>exact h
  exact wpIn_exit (hq _ ρ a w hf (.refl _) (.refl _ _) h')
 | .region id ops d,x,Q,Q',ρ,a,w,h,hf,hq=>by
  cases x
  case cU r=>
   have h':mQ P N r ops d ρ w.heap λρ' h'=>Q .normal ρ' h':=by cases d<;>simpa only[gZ]using h
   exact wpIn_wide.2 (LZ h' hf λρ' a' w' b p s g=>hq _ ρ' a' w' b p s g)
  case leaf=>
   cases d<;>simp only[gZ]at h
   refine wpIn_region_list (JT h hf λρ' a' w' b p s g=>hq _ ρ' a' w' b p s g)
  all_goals (cases d<;>simp only[gZ]at h)
 | .seq c1 c2,x,Q,Q',ρ,a,w,h,hf,hq=>by
  cases x<;>simp only[gZ]at h
  refine wpIn_seq (Vh c1 h hf λe ρ' a' w' b p s g=>?_);cases e
  case normal=>exact Vh c2 g b λe ρ'' z A j u C F=>hq e ρ'' z A j (p.trans u) (s.trans C) F
  all_goals exact hq _ ρ' a' w' b p (s.mono λi hi=>kN _ hi) g
 | .cond c c1 c2,x,Q,Q',ρ,a,w,h,hf,hq=>by
  cases x<;>simp only[gZ]at h
  obtain⟨t,R,h⟩:=Vd h;refine wpIn_cond_split (hf.ev _ _ R) (λe=>?_) (λe=>?_)
  .exact Vh c1 (h.t e) hf λe ρ' a' w' b p s g=>hq e ρ' a' w' b p (s.mono λi hi=>kN _ hi) g
  .exact Vh c2 (h.f e) hf λe ρ' a' w' b p s g=>hq e ρ' a' w' b p (s.mono λi hi=>oP _ hi) g
 | .block id c1,x,Q,Q',ρ,a,w,h,hf,hq=>by
  cases x<;>simp only[gZ]at h
  refine wpIn_block (Vh c1 h hf λe ρ' a' w' b p s g=>?_);cases e
  case exit i=>
   simp only[xf]at g;simp only[Exit.inBlock];split at g
   .rename_i e;have J:i=id:=kf e;rw[zC J];exact hq _ ρ' a' w' b p s g
   .rename_i e;have J:i≠id:=λh=>by subst h;simp at e
    rw[zB J];exact hq _ ρ' a' w' b p s g
  all_goals exact hq _ ρ' a' w' b p s g
 | .loop c1,x,Q,Q',ρ,a,w,h,hf,hq=>by
  cases x<;>simp only[gZ]at h
  rename_i js x;rw[WJ]at h;obtain⟨H,I,μ,E,U⟩:=h;refine Ω (λn a' w'=>∃vs,Fits N (iD (ρ.eC (fQ c1)) js vs) a'/\Xx w w'/\Sat (mE js) (G9 (mE js) I μ (· = n)) vs w'.heap) ?_ ?_
  .obtain⟨vs,M,E⟩:=Hy E;obtain⟨n,K⟩:=Hv μ E;exact⟨n,vs,KW js (hf.weaken (yA _ _)) hf M,.refl _,K⟩
  .rintro n a' w' ⟨vs,b,p,K⟩;have:=UB (K.mono (U n));have S:=(Hb (fQ c1) ρ).trans (Vg (fQ c1) js (ρ.eC (fQ c1)) vs H);refine Vh c1 this b λe ρ'' z A j u s g=>?_;have y:VA (fQ c1) ρ ρ'':=(S.trans s).mono λi hi=>by
    simp only[zJ]at hi;rcases hi with(h|h)|h<;>exact h
   cases e
   case normal=>
    obtain⟨D,G,L⟩:=Hy g;obtain⟨m,V,B⟩:=Gz L;exact⟨m,V,D,KW js (Uh j y) j G,p.trans u,B⟩
   all_goals exact hq _ ρ'' z A j (p.trans u) y g
 | .scope ..,x,Q,Q',ρ,a,w,h,hf,hq=>(by cases x<;>simp only[gZ]at h)
 | .label ..,x,Q,Q',ρ,a,w,h,hf,hq=>(by cases x<;>simp only[gZ]at h)
 | .rangeFunc ..,x,Q,Q',ρ,a,w,h,hf,hq=>(by cases x<;>simp only[gZ]at h)
 | .goto ..,x,Q,Q',ρ,a,w,h,hf,hq=>(by cases x<;>simp only[gZ]at h)
 | .refuse ..,x,Q,Q',ρ,a,w,h,hf,hq=>(by cases x<;>simp only[gZ]at h)
def Dg (P:Program)(f:Nat)(args:Array Value)(h:Hp)(R:aP):Prop:=
 ∀w:World,w.heap=h->∀m,CallsIn Fence.wide m P f args w λe w'=>Xx w w'/\(∃v,e=.returned v)/\R w'.heap
def I3 (P:Program)(fn:Func)(x:Hn)(args:List Value)(R:aP)(h:Hp):Prop:=
 match fn.body with
 | some c=>fU (Nat.ble args.length fn.ntmps&&fn.results.isEmpty) (gZ P fn.ntmps c x (λe ρ h=>match e with | .normal=>R h | .ret=>R h|_=>False) (tN args) h)
 | none=>False
theorem O7 {f:Nat}{fn:Func}{x:Hn}{args:List Value}{R:aP}{h:Hp}(hfn:P.funcs[f]?=some fn)(hk:I3 P fn x args R h):Dg P f args.toArray h R:=by
 intro w hw m;subst hw;unfold I3 at hk;split at hk
 case h_2=>exact hk.elim
 rename_i c hb;rw[WJ]at hk;obtain⟨d,hk⟩:=hk;simp only[zF,Ab]at d;have u:args.length<=fn.ntmps:=AA d.1;refine callsIn_of_wp_marks hfn hb trivial ?_;have b:∀a w,(results fn a).run P w=.ok (.tuple #[]) w:=λa w=>by
  simp[results,d.2]
 refine Vh c hk (ρ:=tN args) ⟨rfl,by simp;omega,λi v j=>?_⟩ λe A s z y r B p=>?_
 .simp only[tN]at j;have g:i<args.length:=(cY.1 j).1;rw[xq (by simpa using g)];simpa using j
 .cases e
  case normal=>
   show LeavesInM _ _ _ _ _ _ s.defers _ _;rw[y.defers];exact⟨_,b _ _,r,⟨_,rfl⟩,p⟩
  case ret=>
   show LeavesInM _ _ _ _ _ _ s.defers _ _;rw[y.defers];exact⟨_,b _ _,r,⟨_,rfl⟩,p⟩
  all_goals exact p.elim
end Go.Vc
namespace Go.Vc
open Go
variable {m0:Nat}{P:Program}
def wY (P:Program)(fv:Fv)(xs:List (List Value))(Kp:aP):Prop:=
 ∀(l:Nat) (J:Nat->Hp->Prop),(∀k h h',J k h->aF h h'->J k h')->(∀k h,J k h->Kp h) →
  (∀k x,xs[k]?=some x->∀h,J k h->HJ P l x h λb h'=>b=true/\J (k+1) h') →
  ∀h,J 0 h->Dg P fv.f (#[.func (.yield l) #[] #[]]++fv.captured) h λh'=>J xs.length h'
def Cb (P:Program){α:Type}(enc:α->List Value)(fv:Fv)(h:Hp)(round:α->(Hp->Prop)->Hp->Prop)(K:aP):Prop:=
 fv.first = #[]/\Ut P fv.f=true/\∃(xs:List α) (Kp:aP) (I:Nat->Hp->Prop),wY P fv (xs.map enc) Kp/\(∀k s s',I k s->Ext (λb=>b=h.size\/b=h.size+1) s s'->I k s')/\(∀k s,I k s->Kp s)/\I 0 h ∧
  (∀k x,xs[k]?=some x->∀s,I k s->h.size+2<=s.size->round x (λs'=>I (k+1) s'/\s'[h.size]?=s[h.size]?/\s'[h.size+1]?=s[h.size+1]?) s) ∧
  (∀s,I xs.length s->s[h.size]?=some (.deferred (some []))->K s)
def pR:List Nat->List Value->Env->Env
 | p::ps,v::vs,ρ=>pR ps vs (ρ.put p v)
 | _,_,ρ=>ρ
theorem JS {N:Nat}:∀(ps:List Nat) (vs:List Value) {ρ:Env} {t:Array Value},(∀p∈ps,p<N)->Fits N ρ {tmps:=t,defers:=[]}->Fits N (pR ps vs ρ) {tmps:=(ps.zip vs).foldl (λt (x:Nat×Value)=>t.setIfInBounds x.1 x.2) t,defers:=[]}
 | [],vs,ρ,t,_,hf=>by cases vs<;>exact hf
 | p::ps,[],ρ,t,_,hf=>hf
 | p::ps,v::vs,ρ,t,hp,hf=>by
  have h1:=hf.put (d:=some p) (show Nat.blt p N=true by rw[Nat.blt_eq];exact hp p mL) v;exact JS ps vs (λq a=>hp q (l7 _ a)) h1
def rD (N:Nat):List Oper->Env->Option Env
 | [],ρ=>some ρ
 | o::os,ρ=>match o.op,o.dst,o.guard with
  | .assign x,some d,none=>match ev ρ x with
   | some v=>bif Nat.blt d N then rD N os (ρ.put d v)else none
   | none=>none
  | _,_,_=>none
def rH (N:Nat):Code->Env->Option Env
 | .region _ ops false,ρ=>rD N ops.toList ρ
 | .skip,ρ=>some ρ
 | _,_=>none
theorem Is {N:Nat}{F:Fence}{ops:Array Oper}{Q:Exit->Act->World->Prop}(hF:∀f,F.fn f):∀{os:List Oper} {ρ ρ':Env} {a:Act} {w:World},rD N os ρ=some ρ'->Fits N ρ a->(∀a',Fits N ρ' a'->Q .normal a' w)->wpListIn F m0 P ops Q os a w
 | [],ρ,ρ',a,w,h,hf,hq=>by cases h;exact hq a hf
 | o::os,ρ,ρ',a,w,h,hf,hq=>by
  unfold rD at h;split at h
  .rename_i x d hop hd hg;split at h
   .rename_i v hv;cases hb:Nat.blt d N with
    | false=>rw[hb]at h;cases h
    | true=>
     rw[hb]at h;have hw:Region.wanted o (yielded ops a.tmps)=true:=by simp[Region.wanted,hg]
     simp only[wpListIn,hw,zT];refine⟨λf _=>hF f,?_⟩;rw[Oper.semAt_eq _ _ _ (λc g=>by rw[hop]at g;cases g)];have i:(execOp a.eval o).run P w=.ok (.value v) w:=by
      unfold execOp;rw[hop];simp only;rw[Sem.run_pure,hf.ev x v hv]
     rw[i];have b:=hf.put (d:=some d) hb v;rw[Oper.uponIn_value,hd];exact Is hF h b hq
   .cases h
  .cases h
theorem T5 {N:Nat}{F:Fence}{c:Code}{Q:Exit->Act->World->Prop}(hF:∀f,F.fn f){ρ ρ':Env}{a:Act}{w:World}(h:rH N c ρ=some ρ')(hf:Fits N ρ a)(hq:∀a',Fits N ρ' a'->Q .normal a' w):c.wpIn F m0 P Q a w:=by
 unfold rH at h;split at h
 .exact wpIn_region_list (Is hF h hf hq)
 .cases h;exact wpIn_skip (hq a hf)
 .cases h
def xg (P:Program)(N n:Nat){α:Type}(enc:α->List Value)(fv:Fv)(ps:Array Nat)(asg bd:Code)(x:Hn)(ρ:Env)(h:Hp)(K:aP):Prop:=
 fU (Nat.beq ps.toList.length n&&(ps.toList.all (λp=>Nat.blt p N)&&oH P true bd x))
  (Cb P enc fv h (λy J s=>match rH N asg (pR ps.toList (enc y) ρ)with
   | some ρ'=>iM P N bd x (λe _ s'=>match e with | .normal=>J s'|_=>False) ρ' s
   | none=>False) K)
theorem Gq {w:World}{o:Obj}{b:Nat}(h:b<w.heap.size):(w.alloc o).heap[b]?=w.heap[b]? := by
 show(w.heap.push o)[b]?=w.heap[b]?;rw[yf,zB O]
theorem U8 (w:World)(l:Nat)(o:Obj):Xx w (w.putObj l o):=⟨rfl,rfl,rfl,by simp⟩
theorem Ex {w:World}{l:Nat}{o:Obj}{F:Nat->Prop}(hl:F l):Ext F w.heap (w.putObj l o).heap:=⟨by simp,λb d a=>World.putObj_heap_other λe=>a (by rw[e];exact hl)⟩
theorem OR {N n:Nat}{α:Type}{enc:α->List Value}(henc:∀y,(enc y).length=n){fv:Fv}{g:Operand}{ps:Array Nat}{asg bd:Code}{x:Hn}{ρ:Env}{a:Act}{w:World}{K:aP}{Q:Exit->Act->World->Prop}
 (hg:a.eval g=.func (.func fv.f) fv.first fv.captured) (hf:Fits N ρ a) (h:xg P N n enc fv ps asg bd x ρ w.heap K)
 (hQ:∀w',Xx w w'->w'.heap[w.heap.size]?=some (.deferred (some []))->K w'.heap->Q .normal {a with defers:={target:=.collected w.heap.size,args := #[]}::a.defers} w'):(Code.rangeFunc g ps asg bd).wpIn Fence.wide m0 P Q a w:=by
 unfold xg at h;rw[WJ]at h;obtain⟨hc,C,G,xs,Kp,I,V,m,hKp,h0,z,Y⟩:=h;simp only[zF,kF]at hc;obtain⟨hn,hps,hok⟩:=hc;have S:∀y,(enc y).length=ps.size:=λy=>by
  rw[henc y,←kf hn];simp
 rw[C]at hg;refine wpIn_rangeFunc ?_;intro fn hfn;obtain⟨i,d⟩:∃i:LoopState->Option Code->Loop,i=λst pe=>{state:=st,pending:=pe,fn,tmps:=a.tmps,params:=ps,assign:=asg,body:=bd,defers:=w.heap.size}:=⟨_,rfl⟩;obtain⟨W1,j⟩:∃W1,(w.alloc (.deferred (some []))).alloc (.loop (i .ready none))=W1:=⟨_,rfl⟩;have hsz:W1.heap.size=w.heap.size+2:=by rw[←j];simp
 have aa:W1.heap[w.heap.size+1]?=some (.loop (i .ready none)):=by
  rw[←j];have:=World.alloc_heap_new (w.alloc (.deferred (some []))) (.loop (i .ready none));rwa [World.size_alloc]at this
 have Z:W1.heap[w.heap.size]?=some (.deferred (some [])):=by
  rw[←j];exact(Gq aA).trans (World.alloc_heap_new w _)
 have hE1:aF w.heap W1.heap:=⟨O,λb B _=>by
  rw[←j];exact(Gq aE).trans (Gq B)⟩
 have io1:Xx w W1:=⟨by rw[←j];rfl,by rw[←j];rfl,by rw[←j];rfl,O⟩;have M:∀{s s':Hp},aF s s'->Ext (λb=>b=w.heap.size\/b=w.heap.size+1) s s':=λe=>⟨e.1,λb B _=>e.2 b B id⟩;have bT:∀{s s':Hp} {b:Nat} {o:Obj},aF s s'->s[b]?=some o->s'[b]?=some o:=λe B=>(e.2 _ (jT.1 B).1 id).trans B;refine⟨w.heap.size+1,[{target:=.collected w.heap.size,args := #[]}],W1,{target:=.fn (.func fv.f) fv.captured,args := #[.func (.yield (w.heap.size+1)) #[] #[]]},W1,fv.f,
  #[.func (.yield (w.heap.size+1)) #[] #[]]++fv.captured,W1,?_,?_,λ_ _=>trivial,?_,λh=>by simp[Fence.wide]at h,?_⟩
 .rw[←j,d];exact run_enterLoop_outer _ _ _ _ _
 .simp only[resolve,hg];simp[go_sem]
 .simp only[invoke];exact V0 G _ _
 .refine(V (w.heap.size+1) (λk s=>I k s/\s[w.heap.size+1]?=some (.loop (i .ready none))/\s[w.heap.size]?=some (.deferred (some [])))
   (λk s s' R e=>⟨m k s s' R.1 (M e),bT e R.2.1,bT e R.2.2⟩) (λk s R=>hKp k s R.1) ?_ W1.heap ⟨m 0 _ _ h0 (M hE1),aa,Z⟩ W1 rfl (m0-1)).mono ?_
  .rintro k xv hx s ⟨hI,hl,hk⟩ W rfl;rw[zZ,oy]at hx;obtain⟨y,hy,rfl⟩:=hx;have hlt:w.heap.size+1<W.heap.size:=(jT.1 hl).1;have L:=run_yield (P:=P) (args:=(enc y).toArray) hl (by rw[d];simpa using S y);rw[d]at L;refine⟨fn,_,asg,bd,L,roundIn_of_wpIn trivial ?_⟩;have hr:=z k y hy;cases hasg:rH N asg (pR ps.toList (enc y) ρ)with
   | none=>
    have:=hr W.heap hI O;simp only[hasg]at this
   | some ρ'=>
    have hfp:Fits N (pR ps.toList (enc y) ρ) {tmps:=(ps.zip (enc y).toArray).foldl (λtmps (t,a)=>tmps.setIfInBounds t a) a.tmps,defers:=[]}:=by
     have h1:=JS ps.toList (enc y) (t:=a.tmps) (λp hp=>by have:=hps p hp;rwa [Nat.blt_eq]at this) (by
      have:=hf;exact⟨rfl,this.size,this.at_⟩)
     have h2:(ps.zip (enc y).toArray).foldl (λtmps (t,a)=>tmps.setIfInBounds t a) a.tmps=(ps.toList.zip (enc y)).foldl (λt (x:Nat×Value)=>t.setIfInBounds x.1 x.2) a.tmps:=by
      rw[←Array.foldl_toList];simp
     rw[h2];exact h1
    refine T5 (F:=Fence.wide.inRound (w.heap.size+1)) (λf=>trivial) hasg hfp λa1 J=>⟨_,run_beginRound hl (by rw[d]),?_⟩;have D:(W.putObj (w.heap.size+1) (.loop {i .ready none with state:=.busy})).heap[w.heap.size+1]?=some (.loop {i .ready none with state:=.busy}):=World.putObj_heap_same hlt;have A:(W.putObj (w.heap.size+1) (.loop {i .ready none with state:=.busy})).heap[w.heap.size]?=some (.deferred (some [])):=(World.putObj_heap_other O).trans hk;have B:=hr (W.putObj (w.heap.size+1) (.loop {i .ready none with state:=.busy})).heap (m k _ _ hI (Ex (.inr rfl))) (by rw[World.putObj_size];omega);simp only[hasg]at B;refine KI (ro:=some (w.heap.size+1)) (m0:=0) (ds:=[]) bd B hok ⟨by rw[Up J.defers];exact J,J.defers⟩ λe ρ2 a2 w2 hf2 H hq=>?_;cases e
    case normal=>
     obtain⟨u,U,E⟩:=hq;rw[D]at E;rw[A]at U;have r:=run_endRound (P:=P) none E;refine⟨_,_,r,((U8 _ _ _).trans H).trans (U8 _ _ _),true,rfl,rfl,m _ _ _ u (Ex (.inr rfl)),?_,(World.putObj_heap_other O).trans U⟩;rw[World.putObj_heap_same (jT.1 E).1,d];rfl
    all_goals exact hq.elim
  .rintro e W2 ⟨H,⟨v,rfl⟩,u,D,A⟩;have r:=run_endLoop (P:=P) D (by rw[d];simp);refine⟨none,_,by rw[d]at r;exact r,?_⟩;have hlt2:=(jT.1 A).1;rw[zk]at u;have X:∀o,(W2.putObj (w.heap.size+1) o).heap[w.heap.size]?=some (.deferred (some [])):=λo=>(World.putObj_heap_other O).trans A;exact hQ _ ((io1.trans H).trans (U8 _ _ _)) (X _) (Y _ (m _ _ _ u (Ex (.inr rfl))) (X _))
def vq (D:Nat)(s:Hp)(K:aP):Prop:=s[D]?=some (.deferred (some []))/\K (s.setIfInBounds D (.deferred none))
def qt (P:Program)(fn:Func)(rs:List SK)(R:eR (fA rs))(D:Nat):Exit->Env->Hp->Prop
 | .normal,ρ,h=>vq D h λh'=>mj P fn.results.toList rs ρ h' λvs=>tJ (fA rs) R vs h'
 | .ret,ρ,h=>vq D h λh'=>mj P fn.results.toList rs ρ h' λvs=>tJ (fA rs) R vs h'
 | _,_,_=>False
inductive TX where
 | nx (x:Hn) (t:TX)
 | r1 (y:Hn) (c:CK) (bd b:Hn)
 | r2 (y:Hn) (c d:CK) (bd b:Hn)
def e1 (c:CK)(y:c.T):List Value:=[c.v y]
def e2 (c d:CK)(y:c.T×d.T):List Value:=[c.v y.1,d.v y.2]
def uE (P:Program)(fn:Func)(rs:List SK)(R:eR (fA rs)):Code->TX->Env->Hp->Prop
 | .seq a b,.nx x t,ρ,h=>iM P fn.ntmps a x (vP (λρ' h'=>uE P fn rs R b t ρ' h') (pj P fn rs R)) ρ h
 | .seq (.seq r (.block _ (.rangeFunc g ps asg bd))) b,.r1 y c yb yc,ρ,h=>iM P fn.ntmps r y (λe ρ' h'=>match e with
  | .normal=>wv (ev ρ' g) λvg=>ni .fn vg λfv=>fU (oH P false b yc) (xg P fn.ntmps 1 (e1 c) fv ps asg bd yb ρ' h' λs=>iM P fn.ntmps b yc (qt P fn rs R h'.size) ρ' s)
  | _=>False) ρ h
 | .seq (.seq r (.block _ (.rangeFunc g ps asg bd))) b,.r2 y c d yb yc,ρ,h=>iM P fn.ntmps r y (λe ρ' h'=>match e with
  | .normal=>wv (ev ρ' g) λvg=>ni .fn vg λfv=>fU (oH P false b yc) (xg P fn.ntmps 2 (e2 c d) fv ps asg bd yb ρ' h' λs=>iM P fn.ntmps b yc (qt P fn rs R h'.size) ρ' s)
  | _=>False) ρ h
 | _,_,_,_=>False
theorem HU {fn:Func}{rs:List SK}{R:eR (fA rs)}{w0:World}{e:Exit}{ρ:Env}{a:Act}{w:World}(hf:Fits fn.ntmps ρ a)(io:Xx w0 w)(h:pj P fn rs R e ρ w.heap) :
 bodyPostM Fence.wide m0 P fn (λe w'=>Xx w0 w'/\∃vs,e=.returned (pack rs vs)/\Sat (fA rs) R vs w'.heap) e a w:=by
 cases e<;>simp only[pj]at h
 case normal=>
  obtain⟨vs,b,d⟩:=VG hf h;show LeavesInM _ _ _ _ _ _ a.defers _ _;rw[hf.defers];exact⟨_,d,io,vs,rfl,Hs b⟩
 case ret=>
  obtain⟨vs,b,d⟩:=VG hf h;show LeavesInM _ _ _ _ _ _ a.defers _ _;rw[hf.defers];exact⟨_,d,io,vs,rfl,Hs b⟩
theorem Υ {fn:Func}{rs:List SK}{R:eR (fA rs)}{w0:World}{D:Nat}{e:Exit}{ρ:Env}{a:Act}{w:World}(hf:mu [{target:=.collected D,args := #[]}] fn.ntmps ρ a)(io:Xx w0 w)(h:qt P fn rs R D e ρ w.heap) :
 bodyPostM Fence.wide m0 P fn (λe w'=>Xx w0 w'/\∃vs,e=.returned (pack rs vs)/\Sat (fA rs) R vs w'.heap) e a w:=by
 have b:∀{K:List Value->Prop},(vq D w.heap λi=>mj P fn.results.toList rs ρ i λvs=>tJ (fA rs) R vs i) →
  LeavesInM Fence.wide m0 P fn a.tmps (λe w'=>Xx w0 w'/\∃vs,e=.returned (pack rs vs)/\Sat (fA rs) R vs w'.heap) a.defers .returning w:=by
  intro K hd;obtain⟨p,g⟩:=hd;rw[hf.d];obtain⟨vs,j,m⟩:=VG (w:=w.putObj D (.deferred none)) hf.f g;exact⟨by simp,.inl ⟨_,_,rfl,run_takeDeferred p,_,m,io.trans (U8 _ _ _),vs,rfl,Hs j⟩⟩
 cases e<;>simp only[qt]at h
 case normal=>exact b (K:=λ_=>True) h
 case ret=>exact b (K:=λ_=>True) h
theorem OL {fn:Func}{rs:List SK}{R:eR (fA rs)}{w0:World}:∀(c:Code) {t:TX} {ρ:Env} {a:Act} {w:World},uE P fn rs R c t ρ w.heap->Fits fn.ntmps ρ a->Xx w0 w →
 c.wpIn Fence.wide m0 P (bodyPostM Fence.wide m0 P fn (λe w'=>Xx w0 w'/\∃vs,e=.returned (pack rs vs)/\Sat (fA rs) R vs w'.heap)) a w:=by
 intro c;have J:∀{α:Type} {n:Nat} {enc:α->List Value} (henc:∀y,(enc y).length=n) {r b:Code} {y yb yc:Hn} {id:Nat} {g:Operand} {ps:Array Nat} {asg bd:Code} {ρ:Env} {a:Act} {w:World},
  iM P fn.ntmps r y (λe u K=>match e with
   | .normal=>wv (ev u g) λL=>ni .fn L λM=>fU (oH P false b yc) (xg P fn.ntmps n enc M ps asg bd yb u K λs=>iM P fn.ntmps b yc (qt P fn rs R K.size) u s)
   | _=>False) ρ w.heap->Fits fn.ntmps ρ a->Xx w0 w →
  (Code.seq (.seq r (.block id (.rangeFunc g ps asg bd))) b).wpIn Fence.wide m0 P (bodyPostM Fence.wide m0 P fn (λe w'=>Xx w0 w'/\∃vs,e=.returned (pack rs vs)/\Sat (fA rs) R vs w'.heap)) a w:=by
  intro α n enc henc r b y yb yc id g ps asg bd ρ a w h hf io;refine wpIn_seq (wpIn_seq (wpIn_wide.2 (Q6 r h hf λe u F w' j m U p=>?_)));cases e
  case normal=>
   obtain⟨L,Q,C⟩:=WA p;obtain⟨M,rfl,z⟩:=Uk C;rw[WJ]at z;obtain⟨B,D⟩:=z;refine wpIn_block (OR henc (j.ev _ _ Q) j D λY A Z S=>?_);have H:mu [{target:=.collected w'.heap.size,args := #[]}] fn.ntmps u {F with defers:={target:=.collected w'.heap.size,args := #[]}::F.defers}:=
    ⟨⟨rfl,j.size,j.at_⟩,by simp only[j.defers]⟩
   exact KI (ro:=none) (ds:=[{target:=.collected w'.heap.size,args := #[]}]) b S B H λe W V X E G N=>Υ E (((io.trans m).trans A).trans G) N
  all_goals exact p.elim
 induction c with
 | seq a b iha ihb=>
  intro t ρ act w h hf io;cases t with
  | nx x t=>
   simp only[uE]at h;refine wpIn_seq (wpIn_wide.2 (Q6 a h hf λe u F w' j m U p=>?_));cases e
   case normal=>exact ihb p j (io.trans m)
   case ret=>exact HU (m0:=m0) (P:=P) (e:=.ret) (R:=R) j (io.trans m) p
   case exit i=>exact HU (m0:=m0) (P:=P) (e:=.exit i) (R:=R) j (io.trans m) p
   case goto i=>exact HU (m0:=m0) (P:=P) (e:=.goto i) (R:=R) j (io.trans m) p
   case panic i=>exact HU (m0:=m0) (P:=P) (e:=.panic i) (R:=R) j (io.trans m) p
   case outgrown=>exact HU (m0:=m0) (P:=P) (e:=.outgrown) (R:=R) j (io.trans m) p
  | r1 y c yb yc=>
   unfold uE at h;split at h
   case h_1 hx=>cases hx
   case h_2 heq hx=>cases heq;cases hx;exact J (n:=1) (enc:=e1 _) (λ_=>rfl) h hf io
   case h_3 hx=>cases hx
   case h_4=>exact h.elim
  | r2 y c d yb yc=>
   unfold uE at h;split at h
   case h_1 hx=>cases hx
   case h_2 hx=>cases hx
   case h_3 heq hx=>cases heq;cases hx;exact J (n:=2) (enc:=e2 _ _) (λ_=>rfl) h hf io
   case h_4=>exact h.elim
 | _=>intro t ρ act w h hf io;cases t<;>simp[uE]at h
def FG (P:Program)(fn:Func)(x:TX)(args:List Value)(rs:List SK)(R:eR (fA rs))(h:Hp):Prop:=
 match fn.body with
 | some c=>fU (Nat.ble args.length fn.ntmps) (uE P fn rs R c x (tN args) h)
 | none=>False
theorem JV {f:Nat}{fn:Func}{x:TX}{args:List Value}{rs:List SK}{R:eR (fA rs)}{h:Hp}(hfn:P.funcs[f]?=some fn)(hk:FG P fn x args rs R h):Wg P f args.toArray rs h R:=by
 intro w hw;subst hw;unfold FG at hk;split at hk
 case h_2=>exact hk.elim
 rename_i c hb;rw[WJ]at hk;obtain⟨d,hk⟩:=hk;have g:args.length<=fn.ntmps:=AA d;refine callsIn_wide.1 (callsIn_of_wp_marks (n:=0) hfn hb trivial (OL c hk ⟨rfl,by simp;omega,λi v b=>?_⟩ (.refl _)));simp only[tN]at b;have a:i<args.length:=(cY.1 b).1;rw[xq (by simpa using a)];simpa using b
end Go.Vc
namespace Go.Proofs
open Go.Vc
set_option maxRecDepth 100000
def Wh.h:Hn:=.q .o1 (.q (.q .o2 .aK) (.q .o4 .l))
def Wh.v (a:Sl)(b:Hp)(c:Sl->Hp->Prop):Prop:=If a.a.isNone (c ⟨none,0,0⟩ b) (aV #[] 101 b λd e=>App ⟨some d,0,0⟩ 2 16 101 [.I 0,.I 0] a e λf g=>c f g)
theorem Wh.o {a b c}(d:Wh.v a b c):Wh.c a b c:=Wa Tryz.func79 (x:=Wh.h) (R0 d)
def W7.h:Hn:=.q .o1 (.kx [] (.q .o3 (.c .o2 .l)) (.q .o4 (.q (.q .o1 (.k (.loop [(3,.I),(4,.I)] (.q (.q .o4 (.c .l .l)) (.q (.k .o7) .o3))))) .aL)))
def W7.v (a:Sl)(b:Hp)(c:aN):Prop:=Jn [] (λd=>Ix a.a a.len 0 1 λe=>bN e d λf=>X9 [bO,bO] (λg=>g f 1 d) λh (i:Int) (j:Int) k=>If (j<((a.len:Nat):Int)) (Ix a.a a.len j 1 λl=>bN l k λm=>bM (j+1) λn=>h (if m<i then m else i) n k) (c i k)) λo=>If (((a.len:Nat):Int)<1) (False) (o b)
theorem W7.o {a b c}(d:W7.v a b c):W7.c a b c:=Wa Tryz.func108 (x:=W7.h) (R0 d)
def QE.xY (l:Nat)(cap0:Addr)(U:Hp)(R:aP):Prop:=
 lO cap0 U λt4=>
 pF .i64 (.ag 5) t4 U λit v=>
 X9 [] (λI=>I v) λJ v1=>
 pE .i64 (.ag 5) it v1 (R v1)
  (λkey val v2=>
  po .i64 (.ag 5) it v2 λkey1 val1=>
  HJ Tryz.prog l [.int .i64 key1] v2 λmore v3=>
  If (!more) (R v3)
   (J v3))
def Wb.h:Hn:=.q .o1 (.q .o5 .l)
def Wb.v (a:Sl)(b:Fv)(c:Hp)(d:aO):Prop:=We.c a b c λe f=>d (decide (e≥0)) f
theorem Wb.o {a b c d}(e:Wb.v a b c d):Wb.c a b c d:=Wa Tryz.func114 (x:=Wb.h) (R0 e)
def Wf.h:Hn:=.q .o2 (.q .o3 (.q .o3 (.q (.k (.loop [(9,.I),(10,.I)] (.q (.q .o3 (.c .l .l)) (.k (.q .o7 (.q .o8 (.c .o3 .o2))))))) (.q (.cU (.seq [.op,.op,.op,.op,.op,.cZ true 8 (RI.ops 8),.op,.op])) .l))))
def Wf.v (a:Sl)(b:Int)(c:Fv)(d:Hp)(e:Int->Bool->Hp->Prop):Prop:=X9 [bO,bO] (λf=>f 0 ((a.len:Nat):Int) d) λg (h:Int) (i:Int) j=>If (h<i) (bM (h+i) λk=>Ar .u64 k λl=>Nn (1:Int) <| bM (l.fdiv (2^(min (1:Int).toNat IntKind.u64.bits))) λm=>Ix a.a a.len m 4 λn=>aQ n 0 j λo=>aQ n 1 j λp=>aQ n 2 j λq=>aQ n 3 j λr=>VP Tryz.prog c [.agg #[.I o,.I p,.I q,.I r],.I b] [.I] j λs t=>If (s<0) (bM (m+1) λu=>g u i t) (g h m t)) (bX (λv w=>e h v w) λx=>If (h<((a.len:Nat):Int)) (Ix a.a a.len h 4 λy=>aQ y 0 j λz=>aQ y 1 j λaa=>aQ y 2 j λab=>aQ y 3 j λac=>VP Tryz.prog c [.agg #[.I z,.I aa,.I ab,.I ac],.I b] [.I] j λad ae=>x (ad==0) ae) (x false j))
theorem Wf.o {a b c d e}(f:Wf.v a b c d e):Wf.c a b c d e:=Wa Tryz.func116 (x:=Wf.h) (R0 f)
def QV.xY (l:Nat)(cap0:Addr)(U:Hp)(R:aP):Prop:=
 lO cap0 U λt4=>
 pF .i64 (.ag 4) t4 U λit v=>
 X9 [] (λI=>I v) λJ v1=>
 pE .i64 (.ag 4) it v1 (R v1)
  (λkey val v2=>
  po .i64 (.ag 4) it v2 λkey1 val1=>
  HJ Tryz.prog l [.int .i64 key1] v2 λmore v3=>
  If (!more) (R v3)
   (J v3))
def Ww.h:Hn:=.q .o1 (.q .o5 .l)
def Ww.v (a:Sl)(b:Int)(c:Hp)(d:aO):Prop:=W3.c a b c λe f=>d (decide (e≥0)) f
theorem Ww.o {a b c d}(e:Ww.v a b c d):Ww.c a b c d:=Wa Tryz.func122 (x:=Ww.h) (R0 e)
def Wo.h:Hn:=.q .o1 (.q (.q .o2 .aK) (.q .o4 .l))
def Wo.v (a:Sl)(b:Hp)(c:Sl->Hp->Prop):Prop:=If a.a.isNone (c ⟨none,0,0⟩ b) (aV #[] 149 b λd e=>App ⟨some d,0,0⟩ 3 24 149 [.I 0,.I 0,.I 0] a e λf g=>c f g)
theorem Wo.o {a b c}(d:Wo.v a b c):Wo.c a b c:=Wa Tryz.func141 (x:=Wo.h) (R0 d)
def W4.h:Hn:=.q .o1 (.q (.q .o2 .aK) (.q .o4 .l))
def W4.v (a:Sl)(b:Hp)(c:Sl->Hp->Prop):Prop:=If a.a.isNone (c ⟨none,0,0⟩ b) (aV #[] 3 b λd e=>App ⟨some d,0,0⟩ 1 8 3 [.I 0] a e λf g=>c f g)
theorem W4.o {a b c}(d:W4.v a b c):W4.c a b c:=Wa Tryz.func146 (x:=W4.h) (R0 d)
def Wq.h:Hn:=.q .o2 (.q .o5 .l)
def Wq.v (a:Sl)(b c:Bool)(d:Hp)(e:aO):Prop:=aV #[.bool b,.bool c] 181 d λf g=>aZ f 0 g λh=>aZ f 1 g λi=>Wv.c a h i g λj k=>e (decide (j≥0)) k
theorem Wq.o {a b c d e}(f:Wq.v a b c d e):Wq.c a b c d e:=Wa Tryz.func157 (x:=Wq.h) (R0 f)
def We.h:Hn:=.q .o1 (.q (.q .o3 (.k (.loop [(8,.I)] (.q .o1 (.q (.c .l .l) (.q (.k (.q .o2 (.q .o6 .aJ))) .o2)))))) .aM)
def We.v (a:Sl)(b:Fv)(c:Hp)(d:aN):Prop:=X9 [bO] (λe=>e 0 c) λf (g:Int) h=>If (g<((a.len:Nat):Int)) (Ix a.a a.len g 2 λi=>aQ i 0 h λj=>aQ i 1 h λk=>VP Tryz.prog b [.agg #[.I j,.I k]] [.one .b] h λl m=>If l (d g m) (bM (g+1) λn=>f n m)) (d (-1) h)
theorem We.o {a b c d}(e:We.v a b c d):We.c a b c d:=Wa Tryz.func161 (x:=We.h) (R0 e)
def W3.h:Hn:=.q .o1 (.q (.q .o3 (.k (.loop [(8,.I)] (.q .o1 (.q (.c .l .l) (.q (.k (.q .o2 (.q .o6 .aJ))) .o2)))))) .aM)
def W3.v (a:Sl)(b:Int)(c:Hp)(d:aN):Prop:=X9 [bO] (λe=>e 0 c) λf (g:Int) h=>If (g<((a.len:Nat):Int)) (Ix a.a a.len g 1 λi=>bN i h λj=>If (b==j) (d g h) (bM (g+1) λk=>f k h)) (d (-1) h)
theorem W3.o {a b c d}(e:W3.v a b c d):W3.c a b c d:=Wa Tryz.func163 (x:=W3.h) (R0 e)
def Wz.h:Hn:=.q .o1 (.q (.q .o2 .aK) (.q .o4 .l))
def Wz.v (a:Sl)(b:Hp)(c:Sl->Hp->Prop):Prop:=If a.a.isNone (c ⟨none,0,0⟩ b) (aV #[] 147 b λd e=>App ⟨some d,0,0⟩ 2 32 147 [.I 0,.slice none 0 0] a e λf g=>c f g)
theorem Wz.o {a b c}(d:Wz.v a b c):Wz.c a b c:=Wa Tryz.func180 (x:=Wz.h) (R0 d)
def Wv.h:Hn:=.q .o2 (.q (.q .o3 (.k (.loop [(8,.I)] (.q .o1 (.q (.c .l .l) (.q (.k (.q .o2 (.q (.oq 6) .aJ))) .o2)))))) .aM)
def Wv.v (a:Sl)(b c:Bool)(d:Hp)(e:aN):Prop:=aV #[.bool b,.bool c] 181 d λf g=>X9 [bO] (λh=>h 0 g) λi (j:Int) k=>If (j<((a.len:Nat):Int)) (aZ f 0 k λl=>aZ f 1 k λm=>Ix a.a a.len j 2 λn=>aZ n 0 k λo=>aZ n 1 k λp=>If ((l==o)&&((m==p)&&true)) (e j k) (bM (j+1) λq=>i q k)) (e (-1) k)
theorem Wv.o {a b c d e}(f:Wv.v a b c d e):Wv.c a b c d e:=Wa Tryz.func214 (x:=Wv.h) (R0 f)
def Ws.h:Hn:=.q .o1 (.q (.q .o3 (.k (.loop [(8,.I)] (.q .o1 (.q (.c .l .l) (.q (.k (.q .o2 (.q .o6 .aJ))) .o2)))))) .aM)
def Ws.v (a:Sl)(b:Fv)(c:Hp)(d:aN):Prop:=X9 [bO] (λe=>e 0 c) λf (g:Int) h=>If (g<((a.len:Nat):Int)) (Ix a.a a.len g 3 λi=>aQ i 0 h λj=>aQ i 1 h λk=>aQ i 2 h λl=>VP Tryz.prog b [.agg #[.I j,.I k,.I l]] [.one .b] h λm n=>If m (d g n) (bM (g+1) λo=>f o n)) (d (-1) h)
theorem Ws.o {a b c d}(e:Ws.v a b c d):Ws.c a b c d:=Wa Tryz.func227 (x:=Ws.h) (R0 e)
def Xj.h:Hn:=.q .o5 (.k (.loop [(2,.I),(3,.I)] (.q (.q .o3 (.c .l .l)) (.q (.k (.cU (.held true [13,15] (.tk [0,1,2,3,4,5,6,7,8,9,10,11,12] (.all [(13,.take 14 (.all [(15,.done)]))]))))) .o6))))
def Xj.v (a:Sl)(b:Hp)(c:aP):Prop:=bM (((a.len:Nat):Int)-1) λd=>X9 [bO,bO] (λe=>e 0 d b) λf (g:Int) (h:Int) i=>If (g<h) (dT i λj=>Ix a.a a.len h 1 λk=>gF j bO k λ(l:Int)=>Ix a.a a.len g 1 λm=>gF j bO m λ(n:Int)=>Ix a.a a.len g 1 λo=>dG o (.I l) i λp=>Ix a.a a.len h 1 λq=>dG q (.I n) p λr=>bM (g+1) λs=>bM (h-1) λt=>f s t r) (c i)
theorem Xj.o {a b c}(d:Xj.v a b c):Xj.c a b c:=Wa Tryz.func236 (x:=Xj.h) (R0 d)
def Wi.h:Hn:=.q .o1 (.q .o4 (.q (.q .o2 .aJ) (.q (.q .o3 (.k (.loop [(5,.I),(6,.I)] (.q (.q .o4 (.c .l .l)) (.q (.k (.q .o6 (.q .o4 (.c (.q .o5 .o3) .l)))) .o3))))) (.q .o4 (.q .o4 .l)))))
def Wi.v (a:Sl)(b:Fv)(c:Hp)(d:Sl->Hp->Prop):Prop:=Wn.c a b c λe f=>If (e==(-1)) (d a f) (bM (e+1) λg=>X9 [bO,bO] (λh=>h e g f) λi (j:Int) (k:Int) l=>If (k<((a.len:Nat):Int)) (Ix a.a a.len k 3 λm=>aQ m 0 l λn=>aQ m 1 l λo=>aY m 2 l λp=>aV #[.I 0,.I 0,.pointer none] 279 l λq r=>aR q 0 (.I n) r λs=>aR q 1 (.I o) s λt=>aR q 2 (.pointer p) t λu=>aQ q 0 u λv=>aQ q 1 u λw=>aY q 2 u λx=>VP Tryz.prog b [.agg #[.I v,.I w,.pointer x]] [.one .b] u λy z=>If (!y) (aQ q 0 z λaa=>aQ q 1 z λab=>aY q 2 z λac=>Ix a.a a.len j 3 λad=>aR ad 0 (.I aa) z λae=>aR ad 1 (.I ab) ae λaf=>aR ad 2 (.pointer ac) af λag=>bM (j+1) λah=>bM (k+1) λai=>i ah ai ag) (bM (k+1) λaj=>i j aj z)) (fI a 3 j (a.len:Nat) (a.cap:Nat) λak=>Bs ak [.I 0,.I 0,.pointer none] l λal=>fI a 3 0 j (a.cap:Nat) λam=>d am al))
theorem Wi.o {a b c d}(e:Wi.v a b c d):Wi.c a b c d:=Wa Tryz.func247 (x:=Wi.h) (R0 e)
def Wr.h:Hn:=.q .o1 (.q (.q .o3 (.k (.loop [(8,.I)] (.q .o1 (.q (.c .l .l) (.q (.k (.q .o2 (.q .o6 .aJ))) .o2)))))) .aM)
def Wr.v (a:Sl)(b:Fv)(c:Hp)(d:aN):Prop:=X9 [bO] (λe=>e 0 c) λf (g:Int) h=>If (g<((a.len:Nat):Int)) (Ix a.a a.len g 1 λi=>fZ i h λj=>VP Tryz.prog b [.pointer j] [.one .b] h λk l=>If k (d g l) (bM (g+1) λm=>f m l)) (d (-1) h)
theorem Wr.o {a b c d}(e:Wr.v a b c d):Wr.c a b c d:=Wa Tryz.func282 (x:=Wr.h) (R0 e)
def Wc.h:Hn:=.q .o2 (.q .o3 (.q .o3 (.q (.k (.loop [(9,.I),(10,.I)] (.q (.q .o3 (.c .l .l)) (.k (.q .o7 (.q .o8 (.c .o3 .o2))))))) (.q (.cU (.seq [.op,.op,.op,.op,.op,.cZ true 8 (RI.ops 8),.op,.op])) .l))))
def Wc.v (a:Sl)(b:Int)(c:Fv)(d:Hp)(e:Int->Bool->Hp->Prop):Prop:=X9 [bO,bO] (λf=>f 0 ((a.len:Nat):Int) d) λg (h:Int) (i:Int) j=>If (h<i) (bM (h+i) λk=>Ar .u64 k λl=>Nn (1:Int) <| bM (l.fdiv (2^(min (1:Int).toNat IntKind.u64.bits))) λm=>Ix a.a a.len m 3 λn=>aQ n 0 j λo=>aQ n 1 j λp=>aY n 2 j λq=>VP Tryz.prog c [.agg #[.I o,.I p,.pointer q],.I b] [.I] j λr s=>If (r<0) (bM (m+1) λt=>g t i s) (g h m s)) (bX (λu v=>e h u v) λw=>If (h<((a.len:Nat):Int)) (Ix a.a a.len h 3 λx=>aQ x 0 j λy=>aQ x 1 j λz=>aY x 2 j λaa=>VP Tryz.prog c [.agg #[.I y,.I z,.pointer aa],.I b] [.I] j λab ac=>w (ab==0) ac) (w false j))
theorem Wc.o {a b c d e}(f:Wc.v a b c d e):Wc.c a b c d e:=Wa Tryz.func291 (x:=Wc.h) (R0 f)
def Wk.h:Hn:=.q .o1 (.q .o3 (.q .o3 (.q (.q .o2 .aJ) (.q .o3 (.q (.q .o3 (.c (.q .o4 .l) .l)) (.q (.q .o6 (.c (.q .gE (.q .o5 (.q (.cU (.tail 8 (RI.ops 8) [.op])) .aL))) .l)) (.q .o6 (.q (.q .o8 (.c (.q (.cU (.tail 8 (RI.ops 8) [.op])) (.q .o5 .aL)) .l)) (.q .o5 (.q .o5 .aL))))))))))
def Wk.v (a:Sl)(b:Int)(c:Sl)(d:Hp)(e:Sl->Hp->Prop):Prop:=fI a 3 b (a.len:Nat) (a.cap:Nat) λf=>If (((c.len:Nat):Int)==0) (e a d) (If (b==((a.len:Nat):Int)) (App a 3 24 279 [.I 0,.I 0,.pointer none] c d λg h=>e g h) (bM (((a.len:Nat):Int)+((c.len:Nat):Int)) λi=>If (i>((a.cap:Nat):Int)) (fI a 3 0 b (a.cap:Nat) λj=>bM (((a.len:Nat):Int)+((c.len:Nat):Int)) λk=>bM (k-b) λl=>uh j 3 24 279 [.I 0,.I 0,.pointer none] l d λm n=>fI m 3 b (m.len:Nat) (m.cap:Nat) λo=>sF o 3 c n λp q=>bM (b+((c.len:Nat):Int)) λr=>fI m 3 r (m.len:Nat) (m.cap:Nat) λs=>fI a 3 b (a.len:Nat) (a.cap:Nat) λt=>sF s 3 t q λu v=>e m v) (bM (((a.len:Nat):Int)+((c.len:Nat):Int)) λw=>fI a 3 0 w (a.cap:Nat) λx=>bM (b+((c.len:Nat):Int)) λy=>fI x 3 y (x.len:Nat) (x.cap:Nat) λz=>uS Tryz.prog 320 [.slice c.a c.len c.cap,.slice z.a z.len z.cap] d λaa ab=>If (!aa) (bM (b+((c.len:Nat):Int)) λac=>fI x 3 ac (x.len:Nat) (x.cap:Nat) λad=>fI x 3 b (x.len:Nat) (x.cap:Nat) λae=>sF ad 3 ae ab λaf ag=>fI x 3 b (x.len:Nat) (x.cap:Nat) λah=>sF ah 3 c ag λai aj=>e x aj) (fI x 3 ((a.len:Nat):Int) (x.len:Nat) (x.cap:Nat) λak=>sF ak 3 c ab λal am=>fI x 3 b (x.len:Nat) (x.cap:Nat) λan=>Va.c an ((c.len:Nat):Int) am λao=>e x ao))))
theorem Wk.o {a b c d e}(f:Wk.v a b c d e):Wk.c a b c d e:=Wa Tryz.func293 (x:=Wk.h) (R0 f)
def XC.h:Hn:=.q .o1 (.q .o7 .l)
def XC.v (a:Sl)(b:Hp)(c:Sl->Hp->Prop):Prop:=fI a 1 0 ((a.len:Nat):Int) ((a.len:Nat):Int) λd=>c d b
theorem XC.o {a b c}(d:XC.v a b c):XC.c a b c:=Wa Tryz.func294 (x:=XC.h) (R0 d)
def Wn.h:Hn:=.q .o1 (.q (.q .o3 (.k (.loop [(8,.I)] (.q .o1 (.q (.c .l .l) (.q (.k (.q .o2 (.q .o6 .aJ))) .o2)))))) .aM)
def Wn.v (a:Sl)(b:Fv)(c:Hp)(d:aN):Prop:=X9 [bO] (λe=>e 0 c) λf (g:Int) h=>If (g<((a.len:Nat):Int)) (Ix a.a a.len g 3 λi=>aQ i 0 h λj=>aQ i 1 h λk=>aY i 2 h λl=>VP Tryz.prog b [.agg #[.I j,.I k,.pointer l]] [.one .b] h λm n=>If m (d g n) (bM (g+1) λo=>f o n)) (d (-1) h)
theorem Wn.o {a b c d}(e:Wn.v a b c d):Wn.c a b c d:=Wa Tryz.func302 (x:=Wn.h) (R0 e)
def WP.h:Hn:=.q .o1 (.q .o5 .l)
def WP.v (a:Sl)(b:Fv)(c:Hp)(d:aO):Prop:=Xg.c a b c λe f=>d (decide (e≥0)) f
theorem WP.o {a b c d}(e:WP.v a b c d):WP.c a b c d:=Wa Tryz.func304 (x:=WP.h) (R0 e)
def Xg.h:Hn:=.q .o1 (.q (.q .o3 (.k (.loop [(8,.I)] (.q .o1 (.q (.c .l .l) (.q (.k (.q .o2 (.q .o6 .aJ))) .o2)))))) .aM)
def Xg.v (a:Sl)(b:Fv)(c:Hp)(d:aN):Prop:=X9 [bO] (λe=>e 0 c) λf (g:Int) h=>If (g<((a.len:Nat):Int)) (Ix a.a a.len g 1 λi=>bN i h λj=>VP Tryz.prog b [.I j] [.one .b] h λk l=>If k (d g l) (bM (g+1) λm=>f m l)) (d (-1) h)
theorem Xg.o {a b c d}(e:Xg.v a b c d):Xg.c a b c d:=Wa Tryz.func334 (x:=Xg.h) (R0 e)
def KK.xY (l:Nat)(cap0:Addr)(U:Hp)(R:aP):Prop:=
 lO cap0 U λt4=>
 pF .i64 .b t4 U λit v=>
 X9 [] (λI=>I v) λJ v1=>
 pE .i64 .b it v1 (R v1)
  (λkey val v2=>
  po .i64 .b it v2 λkey1 val1=>
  HJ Tryz.prog l [.int .i64 key1] v2 λmore v3=>
  If (!more) (R v3)
   (J v3))
def Wl.h:Hn:=.q .o1 (.q .o5 .l)
def Wl.v (a:Sl)(b:Fv)(c:Hp)(d:aO):Prop:=Wt.c a b c λe f=>d (decide (e≥0)) f
theorem Wl.o {a b c d}(e:Wl.v a b c d):Wl.c a b c d:=Wa Tryz.func341 (x:=Wl.h) (R0 e)
def Wt.h:Hn:=.q .o1 (.q (.q .o3 (.k (.loop [(8,.I)] (.q .o1 (.q (.c .l .l) (.q (.k (.q .o2 (.q .o6 .aJ))) .o2)))))) .aM)
def Wt.v (a:Sl)(b:Fv)(c:Hp)(d:aN):Prop:=X9 [bO] (λe=>e 0 c) λf (g:Int) h=>If (g<((a.len:Nat):Int)) (Ix a.a a.len g 2 λi=>aZ i 0 h λj=>aZ i 1 h λk=>VP Tryz.prog b [.agg #[.bool j,.bool k]] [.one .b] h λl m=>If l (d g m) (bM (g+1) λn=>f n m)) (d (-1) h)
theorem Wt.o {a b c d}(e:Wt.v a b c d):Wt.c a b c d:=Wa Tryz.func355 (x:=Wt.h) (R0 e)
end Go.Proofs
namespace Go.Bu
open Go Go.Vc Go.Proofs
variable {U:Hp}{p n sb:Nat}{S:Nat->Bool}{ms:List Nat}
theorem mP {k:Nat}{K:Int->Prop}(hk:k<=62)(hK:K ((2^k:Nat):Int)):Nn (k:Int) (Ar .i64 (1*2^(min (k:Int).toNat IntKind.i64.bits)) K):=by
 refine nn O ?_;rw[LL hk];exact cT aA (F6 hk) hK
theorem uc {x k j:Nat}{K:Int->Prop}(hj:j=k)(hk:k<=62)(hx:x<=4611686018427387904)(hK:K ((x/2^k*2^k:Nat):Int)) :
 Ar .i64 (((x:Int).fdiv (2^(min (k:Int).toNat IntKind.i64.bits)))*2^(min (j:Int).toNat IntKind.i64.bits)) K:=by
 subst hj;rw[LL hk,BR];refine cT aA ?_ hK;exact kD (A5 _ _) hx
theorem BH.rN (h:BH U p n S sb ms){K:Int->Prop}(hK:K (n:Int)):gL .i64 (Addr.add ⟨p,0,none⟩ 0) U K:=eA h.PI hK
theorem BH.rB (h:BH U p n S sb ms){K:Sl->Prop}(hK:∀cap,K ⟨some ⟨sb,0,none⟩,ms.length,cap⟩):jF (Addr.add ⟨p,0,none⟩ 1) U K:=by
 obtain⟨cap,a⟩:=h.nJ;rw[add_lit];exact oL a (hK cap)
theorem BH.rM (h:BH U p n S sb ms){k m:Nat}(hm:ms[k]?=some m){K:Option Nat->Prop}(hK:K (some m)):Ix (some ⟨sb,0,none⟩) ms.length (k:Int) 1 λa=>lO a U K:=by
 refine ix O (by have:=(cY.1 hm).1;omega) ?_;rw[add_lit];refine Fu ?_ hK;have:=h.OF hm;simpa using this
theorem BQ (h:BH U p n S sb ms){R:aO}(hR:R true U):Ys.c (aW p) U R:=by
 refine Ys.o ?_;unfold Ys.v;refine bX.intro (cF rfl (bL (h.rN ?_)));have:=h.n1;rw[zI O];exact hR
def ZF (n:Nat)(start aG:Int):Bool:=decide (0<=start)&&(decide (1<=aG)&&decide (aG<=n-start))
theorem OB (h:BH U p n S sb ms)(start aG:Int){R:aN}(h0:ZF n start aG=true->R 0 U)(h1:ZF n start aG=false->R 1 U):Ze.c (aW p) start aG U R:=by
 refine Ze.o ?_;unfold Ze.v;have a:¬(0<=start/\1<=aG/\aG<=n-start)->R 1 U:=λg=>h1 (by simp only[ZF,←wh];exact zL g);have n1:=h.n1;have n2:=h.n2;refine BQ h (cD rfl (bX.intro ?_));refine cN (λh1=>bX.intro (cF rfl (bX.intro (cF rfl (cF rfl (a O)))))) λh1=>?_;refine bX.intro (cN (λb=>bX.intro (cF rfl (cF rfl (a O)))) λb=>?_);refine bL (h.rN ?_);refine bX.intro (cN (λd=>cF rfl (a O)) λd=>?_);refine bL (h.rN (ar O O ?_));refine cN (λi=>a O) λi=>h0 ?_;simp only[ZF,zF,zV];omega
theorem LC (h:BH U p n S sb ms)(x:Nat)(hx:x<=4611686018427387904){R:Int->Int->Bool->Hp->Prop}
 (h1:∀k q,can S k q=true->x/2^k=q->R (k:Int) ((q*2^k:Nat):Int) true U) (h0:S x=false->R 0 0 false U):XL.c (aW p) (x:Int) U R:=by
 refine XL.o ?_;unfold XL.v;refine bL (h.rB λcap=>?_);refine Qg (a:=bO) (λt s=>∃k:Nat,t=(k:Int)/\k<=ms.length/\s=U/\∀j,j<k->can S j (x/2^j)=false) (λt _=>ms.length-t.toNat) ⟨0,rfl,O,rfl,λj d=>O⟩ ?_;rintro t s ⟨k,rfl,w,rfl,b⟩;have y:=h.len;refine cN (λg=>?_) (λr=>?_)
 .simp only at g;obtain⟨m,u⟩:=h.get (k:=k) O;refine h.rM u (nn O (nn O (uc rfl O hx (h.lk u rfl ?_))));cases hc:can S k (x/2^k)
  .refine cD aA (cT (m:=k+1) O O ?_);refine⟨⟨k+1,rfl,O,rfl,λj d=>?_⟩,O⟩;by_cases e:j=k
   .rw[e];exact hc
   .exact b j O
  .exact cF aA (h1 k _ hc rfl)
 .simp only at r;refine h0 ?_;cases hs:S x
  .rfl
  .obtain⟨j,d⟩:=U7 h.jH hs;have:=h.fits (Qc h.jH (Z1.1 d).1);rw[b j O]at d;cases d
def lL (S:Nat->Bool)(x:Int):Bool:=decide (0<=x)&&S x.toNat
theorem PS (h:BH U p n S sb ms)(x:Int){R:aO}(hR:R (lL S x) U):YN.c (aW p) x U R:=by
 refine YN.o ?_;unfold YN.v;have n2:=h.n2;refine BQ h (bX.intro (cD rfl ?_));refine bX.intro (cN (λb=>cF rfl ?_) λb=>bL (h.rN ?_))
 .have:lL S x=false:=by simp[lL];intro;omega
  rw[this]at hR;exact hR
 .refine cN (λi=>?_) λi=>?_
  .have:lL S x=false:=by
    simp only[lL];cases a:S x.toNat
    .simp
    .have:=h.jH _ a;omega
   rw[this]at hR;exact hR
  .obtain⟨y,rfl⟩:=zc (show 0<=x by omega);have e:lL S (y:Int)=S y:=by simp[lL]
   rw[e]at hR;refine LC h y O (λk q d g=>?_) λa=>?_
   .rw[Ur d g]at hR;exact hR
   .rw[a]at hR;exact hR
theorem σ {k q:Nat}(h:BH U p n S sb ms)(hf:q*2^k+2^k<=n)(hd:∀x,x/2^k=q->S x=false){R:aP}
 (hR:∀σ',Ext (· ∈ ms) U σ'->BH σ' p n (ins S k q) sb ms->R σ'):Zr.c (aW p) (k:Int) ((q*2^k:Nat):Int) U R:=by
 refine Zr.o ?_;unfold Zr.v;refine UJ (a:=bO) (bb:=bO)
  (λo s B=>∃(j r:Nat) (T:Nat->Bool),o=(j:Int)/\s=((r*2^j:Nat):Int)/\r*2^j+2^j<=n/\BH B p n T sb ms/\Ext (· ∈ ms) U B/\(∀x,x/2^j=r->T x=false)/\ins T j r=ins S k q)
  (λo _ _=>ms.length-o.toNat) ⟨k,q,S,rfl,rfl,hf,h,Ext.refl _ _,hd,rfl⟩ ?_
 rintro o s B ⟨j,r,T,rfl,rfl,z,d,N,A,w⟩;have Y:=d.len;have W:=d.fits z;have Q:=d.n2;have V:=lb j;obtain⟨m,C⟩:=d.get W;have y:¬full (ins T j r) (j+1) (r/2)=true->(bW (some ⟨p,0,none⟩) λJ=>jF (J.add 1) B λE=>Ix E.a E.len (j:Int) 1 λL=>lO L B λK=>kS .i64 .b K ((r*2^j:Nat):Int) true B λv3=>R v3):=by
  intro g;refine bL (d.rB λcap=>d.rM C ?_);refine d.xB C A g z rfl λD e M=>hR D (N.trans e) ?_;rw[←w];exact M
 refine cT (m:=j+1) O O (bL (d.rB λcap=>bX.intro ?_));refine cN (λG=>?_) (λH=>?_)
 .simp only at G;refine bL (d.rB λcap=>d.rM C (mP O ?_));have P:=F6 (show j<=62 by omega);have F:bits .xor .i64 ((r*2^j:Nat):Int) ((2^j:Nat):Int)=((ie r*2^j:Nat):Int):=by
   rw[NW O O,SJ]
  rw[F];refine d.lk C rfl ?_;cases hc:can T j (ie r)
  .refine cD aA (y (Wl5 A (by simp[hc])))
  .refine cF aA ?_;refine bL (d.rB λcap=>d.rM C (mP O ?_));rw[F];refine d.sT C hc rfl λD e M=>?_;refine cT (m:=j+1) O O (nn O (cT (m:=j+1) O O (nn O ?_)));refine uc rfl O O ?_;refine cT (m:=j+1) O O ⟨⟨j+1,r/2,del T j (ie r),rfl,?_,?_,M,N.trans e,?_,?_⟩,O⟩
   .rw[mM,←uM,Vl]
   .-- both halves lie within
    have u:=Qc d.jH (Z1.1 hc).1;have e2:r/2*2^(j+1)=(r/2*2)*2^j:=by rw[mM,Nat.mul_comm (2^j) 2,←yB]
    rw[e2,mM];have g:(r/2*2)+1=r\/(r/2*2)+1=ie r:=by unfold ie;split<;>omega
    have X:(r/2*2)*2^j+2^j*2=((r/2*2)+1)*2^j+2^j:=by rw[zo];omega
    rw[X];rcases g with e4|e4<;>rw[e4]<;>assumption
   .intro x F;rcases HP.1 F with u|u
    .simp[del,A x u]
    .simp[del,u]
   .rw[←w];refine ve λx=>?_;rw[V8,V8,V5,HP];by_cases u:x/2^j=ie r
    .simp[u,Ur hc u]
    .simp[u]
 .simp only at H;refine cD rfl (y λg=>?_);have:=Qc (Jk d.jH z) g;have u:2^ms.length<=2^(j+1):=pc aB O;have:=d.hi;omega
theorem Cy {a m:Nat}(h:BH U p n S sb ms)(hf:a+m<=n)(hd:∀x,a<=x->x<a+m->S x=false){R:aP}
 (hR:∀σ',Ext (· ∈ ms) U σ'->BH σ' p n (dF S a (a+m)) sb ms->R σ'):Yh.c (aW p) (a:Int) (m:Int) U R:=by
 refine Yh.o ?_;unfold Yh.v;have K:=h.n2;refine UJ (a:=bO) (bb:=bO)
  (λs c y=>∃(a' g:Nat),s=(a':Int)/\c=(g:Int)/\a<=a'/\a'+g=a+m/\BH y p n (dF S a a') sb ms/\Ext (· ∈ ms) U y)
  (λ_ c _=>c.toNat) ⟨a,m,rfl,rfl,O,rfl,by rw[Pf];exact h,Ext.refl _ _⟩ ?_
 rintro s c y ⟨a',g,rfl,rfl,D,J,H,F⟩;refine cN (λG=>?_) (λW=>?_)
 .refine Qg (a:=bO) (λk u=>∃j q:Nat,k=(j:Int)/\a'=q*2^j/\2^j<=g/\u=y) (λk _=>12-k.toNat) ⟨0,a',rfl,by simp,by simp;omega,rfl⟩ ?_;rintro k u ⟨j,q,rfl,P,M,rfl⟩;have V:j<=10:=by
   apply Classical.byContradiction;intro hc;have:2^11<=2^j:=pc aB O;omega
  refine cT (m:=j+1) O O (nn O (cT (m:=j+1) O O (nn O ?_)));refine uc rfl O O (bX.intro ?_);have r:(Zr.c (aW p) (j:Int) (a':Int) u λv3=>
   Nn (j:Int)<|Ar .i64 (1*2^(min (j:Int).toNat IntKind.i64.bits)) λz=>Ar .i64 ((a':Int)+z) λd=>
   Nn (j:Int)<|Ar .i64 (1*2^(min (j:Int).toNat IntKind.i64.bits)) λB=>Ar .i64 ((g:Int)-B) λb=>
   (∃(a'' m'':Nat),d=(a'':Int)/\b=(m'':Int)/\a<=a''/\a''+m''=a+m/\BH v3 p n (dF S a a'') sb ms/\Ext (· ∈ ms) U v3)/\b.toNat<(g:Int).toNat):=by
   subst P;refine σ H O (λx N=>?_) λv3 e w=>?_
   .have:=QI.1 N;have L:=hd x O O;simp only[dF,L,xN];rw[zL (show ¬x<q*2^j by omega),uu]
   .have C:=lb j;refine mP O (cT (m:=q*2^j+2^j) O O (mP O (cT (m:=g-2^j) O O ?_)));refine⟨⟨_,_,rfl,rfl,O,O,?_,F.trans e⟩,O⟩;rw[RB,Wi7 D O]at w;exact w
  refine cP (λE=>?_) (λE=>cD rfl r);have A:a'/2^(j+1)*2^(j+1)=a':=by
   have:=zU.1 E
   exact_mod_cast this
  refine cT (m:=j+1) O O (mP O ?_);refine cN (λQ=>?_) λ_=>r;refine cT (m:=j+1) O O ⟨⟨j+1,a'/2^(j+1),rfl,A.symm,O,rfl⟩,O⟩
 .have:g=0:=O
  subst this;have:a'=a+m:=O
  subst this;exact hR y F H
theorem O5 {a m:Nat}(h:BH U p n S sb ms)(hf:a+m<=n)(hd:∀x,a<=x->x<a+m->S x=true){R:aP}
 (hR:∀σ',Ext (· ∈ ms) U σ'->BH σ' p n (take S a (a+m)) sb ms->R σ'):ZM.c (aW p) (a:Int) (m:Int) U R:=by
 refine ZM.o ?_;unfold ZM.v;have Q:=h.n2;refine Qg (a:=bO) (λs z=>∃x:Nat,s=(x:Int)/\a<=x/\BH z p n (take S a (min x (a+m))) sb ms/\Ext (· ∈ ms) U z)
  (λs _=>a+m-s.toNat) ⟨a,rfl,O,by rw[qI O,MX];exact h,Ext.refl _ _⟩ ?_
 rintro s z ⟨x,rfl,J,d,K⟩;refine cT (m:=a+m) O O ?_;refine cN (λM=>?_) (λP=>?_)
 .rw[qI O]at d;have Y:take S a x x=true:=Vq.2 ⟨hd x J O,O⟩;refine LC d x O (λk q G X=>?_) (λr=>by rw[Y]at r;cases r);have C:=Qc d.jH (Z1.1 G).1;have Z:=d.fits C;have hl:=d.len;obtain⟨mm,L⟩:=d.get Z;have V:=QI.1 X;refine bL (d.rB λcap=>d.rM L ?_);refine d.sT L G rfl λh1 e1 F=>?_;refine mP O (cT (m:=q*2^k+2^k) O O (cT (m:=x-q*2^k) O O ?_));refine Cy F O (λy B H=>?_) λh2 e2 g=>?_
  .have:y/2^k=q:=QI.2 O;simp[del,this]
  .have w:=(K.trans e1).trans e2;rw[show q*2^k+(x-q*2^k)=x by omega]at g;have j:∀y,q*2^k<=y/\y<q*2^k+2^k->S y=true/\¬(a<=y/\y<x):=λy b=>Vq.1 (Ur G (QI.2 b));refine cT (m:=a+m) O O (cN (λN=>?_) λaa=>?_)
   .refine cT (m:=q*2^k+2^k-(a+m)) O O ?_;refine Cy g O (λy B H=>?_) λh3 W u=>?_
    .have:y/2^k=q:=QI.2 O;have D:¬y<x:=O
     simp[dF,del,this,D]
    .refine⟨⟨_,rfl,O,?_,w.trans W⟩,O⟩;rw[Nat.min_eq_right O];have:dF (dF (del (take S a x) k q) (q*2^k) x) (a+m) (a+m+(q*2^k+2^k-(a+m)))=take S a (a+m):=by
      refine ve λy=>?_;have b:=j y;simp only[KX,V5,Vq,Ne,QI];generalize q*2^k=A at *;generalize 2^k=E at *;cases r:S y
      .rw[r]at b;simp only[za,false_and,false_or,iff_false,imp_false]at b ⊢;omega
      .rw[r]at b;simp only[uP]at b ⊢;omega
     rw[this]at u;exact u
   .refine⟨⟨_,rfl,O,?_,w⟩,O⟩;rw[qI O];have:dF (del (take S a x) k q) (q*2^k) x=take S a (q*2^k+2^k):=by
     refine ve λy=>?_;have b:=j y;simp only[KX,V5,Vq,Ne,QI];generalize q*2^k=A at *;generalize 2^k=E at *;cases r:S y
     .rw[r]at b;simp only[za,false_and,false_or,iff_false,imp_false]at b ⊢;omega
     .rw[r]at b;simp only[uP]at b ⊢;omega
    rw[this]at g;exact g
 .rw[Nat.min_eq_right O]at d;exact hR z K d
def qJ (S:Nat->Bool)(a m:Nat):Bool:=(List.range m).all λi=>!S (a+i)
theorem VI {S:Nat->Bool}{a m:Nat}:qJ S a m=true↔∀x,a<=x->x<a+m->S x=false:=by
 simp only[qJ,kF,zg,mJ];exact⟨λh x b d=>by have:=h (x-a) O;rwa [show a+(x-a)=x by omega]at this,λh i hi=>h _ O O⟩
theorem Ps {S:Nat->Bool}{a m x:Nat}(h1:a<=x)(h2:x<a+m)(h:S x=true):qJ S a m=false:=by
 cases e:qJ S a m
 .rfl
 .rw[VI.1 e x h1 h2]at h;cases h
def yL (n:Nat)(S:Nat->Bool)(a m:Int):Int:=if ZF n a m then(if qJ S a.toNat m.toNat then 0 else 9)else 1
def Kj (n:Nat)(S:Nat->Bool)(a m:Int):Nat->Bool:=if ZF n a m&&qJ S a.toNat m.toNat then dF S a.toNat (a.toNat+m.toNat)else S
theorem Rp {n:Nat}{a m:Int}(h:ZF n a m=true):∃x y:Nat,a=(x:Int)/\m=(y:Int)/\1<=y/\x+y<=n:=by
 simp only[ZF,zF,zV]at h;exact⟨a.toNat,m.toNat,O,O,O,O⟩
theorem sd (h:BH U p n S sb ms)(a m:Int){R:aN}
 (hR:∀σ',Ext (· ∈ ms) U σ'->BH σ' p n (Kj n S a m) sb ms->R (yL n S a m) σ'):Yl.c (aW p) a m U R:=by
 refine Yl.o ?_;unfold Yl.v;have C:=h.n2;refine OB h a m (λd=>cD rfl ?_) (λd=>cF rfl ?_)
 .obtain⟨x,y,rfl,rfl,G,w⟩:=Rp d;refine Qg (a:=bO) (λt s=>∃z:Nat,t=(z:Int)/\x<=z/\s=U/\∀u,x<=u->u<z->S u=false) (λt _=>x+y-t.toNat) ⟨x,rfl,O,rfl,λu _ _=>O⟩ ?_;rintro t s ⟨z,rfl,E,rfl,g⟩;refine cT (m:=x+y) O O ?_;refine cN (λA=>PS h _ ?_) (λB=>?_)
  .have e:lL S (z:Int)=S z:=by simp[lL]
   rw[e];cases hs:S z
   .refine cD rfl (cT (m:=z+1) O O ⟨⟨z+1,rfl,O,rfl,λu r D=>?_⟩,O⟩);by_cases e:u=z
    .rw[e];exact hs
    .exact g u r O
   .refine cF rfl ?_;have j:=Ps (m:=y) E O hs;have:=hR s (Ext.refl _ _);simp only[yL,Kj,d,dH,j,uu,zT,za,jV]at this;exact this h
  .have b:∀u,x<=u->u<x+y->S u=false:=λu r D=>g u r O;have j:=VI.2 b;refine Cy h w b λr e1 F=>?_;have:=hR r e1;simp only[yL,Kj,d,dH,j,vv,zT]at this;exact this F
 .have:=hR U (Ext.refl _ _);simp only[yL,Kj,d,vQ,za,jV]at this;exact this h
end Go.Bu
namespace Go.Ar
open Go.Bu
def wD (n:Nat)(h:Int):Bool:=decide (0<=h)&&decide (h<((n/16:Nat):Int))
def kU (st:List Nat)(h:Int):Int:=if wD st.length h then(if st.getD (16*h.toNat) 0=0 then 0 else 5)else 1
def ji (st:List Nat)(h:Int):List Nat:=if kU st h=0 then gH st (16*h.toNat) (16*h.toNat+16) 3 else st
def wo (st:List Nat)(a m:Nat)(fr:List Nat):Bool:=((st.drop a).take m).all fr.contains
def qe (st:List Nat)(a m:Int)(fr:List Nat):Int:=if ZF st.length a m then(if wo st a.toNat m.toNat fr then 0 else 5)else 1
def UY (st:List Nat)(a m:Int)(v:Nat)(fr:List Nat):List Nat:=if qe st a m fr=0 then gH st a.toNat (a.toNat+m.toNat) v else st
def Oq (st:List Nat)(h:Nat):Nat:=if uZ st (16*h) (16*h+16) 1=0 then 0 else if 0<uZ st (16*h) (16*h+16) 3 then 1 else 2
def WoQ (st:List Nat)(k:Nat):List Nat:=(List.range (st.length/16)).filter λh=>st.getD (16*h) 0 != 0&&Oq st h==k
def used (st:List Nat)(h:Nat):Nat:=uZ st (16*h) (16*h+16) 1
structure Sp where
 st:List Nat
 wd:Nat->Int
 pk:Nat
def Sp.set (s:Sp)(a m v:Nat):Sp:={s with st:=gH s.st a (a+m) v,wd:=λw=>if a*32<=w/\w<(a+m)*32 then 0 else s.wd w}
def fF (s:Sp)(a m:Int):Int:=if ZF s.st.length a m then(if((s.st.drop a.toNat).take m.toNat).any (· != 0)then 5 else 0)else 1
def gp (s:Sp)(a m:Int):Sp:=if fF s a m=0 then s.set a.toNat m.toNat 1 else s
def eP (s:Sp)(x:Int):Int:=if x<0\/x%8≠0 then 7 else if s.st.getD (x.toNat/256) 0=0 then 7 else 0
def nY (s:Sp)(w:Nat)(v:Int):Sp:=
 {st:=s.st.set (w/32) 2,wd:=λu=>if u=w then v else s.wd u,pk:=if s.st.getD (w/32) 0=2 then s.pk else max s.pk ((s.st.set (w/32) 2).count 2)}
def ZJ (s:Sp)(x v:Int):Sp:=if eP s x=0 then nY s (x.toNat/8) v else s
end Go.Ar
namespace Go.Ar
structure Li where
 os:List Int
 lim:Nat
 low:Nat
 deriving DecidableEq
def im:Li:=⟨[],1,0⟩
structure fP (l:Li):Prop where
 low:l.low<=l.os.length
 many:l.os.length<=256
 lim:l.lim<=128
 nQ:1<=l.lim
def gO (m:Nat)(l:Li):List Int×Li:=(l.os.take m,{l with os:=l.os.drop m,low:=min l.low (l.os.length-m)})
def mI (c:cA)(l:Li):Li:=if l.lim<c.batch then{l with lim:=l.lim+1}else l
def KM (c:cA)(l:Li):Option Int×Li:=match l.os.getLast? with
 | none=>(none,if l.lim<c.batch then{l with lim:=l.lim+1}else{l with lim:=min (l.lim+c.batch) 128})
 | some x=>(some x,{l with os:=l.os.dropLast,low:=min l.low (l.os.length-1)})
def qc (c:cA)(l:Li):Nat:=min l.lim c.batch
def eM (xs:List Int)(l:Li):Li:=if l.os.length+xs.length>256 then l else{l with os:=l.os++xs}
def dO (c:cA)(x:Int)(l:Li):List Int×Li:=
 if l.os.length+1>256 then([],l)
 else if l.os.length+1<=l.lim then([],eM [x] l)
 else gO (min c.batch (l.os.length+1)) (mI c (eM [x] l))
def Vz (c:cA)(l:Li):List Int×Li:=
 ((gO ((l.low+1)/2) l).1,{os:=(gO ((l.low+1)/2) l).2.os,lim:=if l.lim>c.batch then max (l.lim-c.batch) c.batch else l.lim,low:=(gO ((l.low+1)/2) l).2.os.length})
def Z9 (_:cA)(l:Li):List Int×Li:=gO l.os.length l
abbrev Bt:=Nat×List Int
def KN (f:cA->Li->List Int×Li)(tb:List cA)(ls:List Li):List Bt:=(List.range tb.length).filterMap λk=>match tb[k]?,ls[k]? with
 | some c,some l=>if(f c l).1=[]then none else some (k,(f c l).1)
 | _,_=>none
def KG (f:cA->Li->List Int×Li)(tb:List cA)(ls:List Li):List Li:=List.zipWith (λc l=>(f c l).2) tb ls
def KB (tb:List cA)(ls:List Li):Nat:=((tb.zip ls).map λx=>x.1.size*x.2.os.length).sum
theorem fP.nil:fP im:=⟨zD _,by decide,by decide,by decide⟩
theorem Bh {m:Nat}{l:Li}(h:fP l):fP (gO m l).2:=by
 have a:=h.low;have b:=h.many;refine⟨?_,?_,h.lim,h.nQ⟩
 .simp only[gO,kj];omega
 .simp only[gO,kj];omega
theorem FU {c:cA}{l:Li}(hc:c.ok)(h:fP l):fP (KM c l).2:=by
 have a:=h.low;have b:=h.many;have d:=h.lim;have g:=h.nQ;unfold cA.ok at hc;unfold KM;split
 .split
  .exact⟨a,b,by simp only;omega,by simp only;omega⟩
  .exact⟨a,b,by simp only;omega,by simp only;omega⟩
 .exact⟨by simp only[BF];omega,by simp only[BF];omega,d,g⟩
theorem A8 {xs:List Int}{l:Li}(h:fP l):fP (eM xs l):=by
 have a:=h.low;have b:=h.many;unfold eM;split
 .exact h
 .exact⟨by simp only[zM];omega,by simp only[zM];omega,h.lim,h.nQ⟩
theorem ER {c:cA}{l:Li}(hc:c.ok)(h:fP l):fP (mI c l):=by
 have a:=h.lim;unfold cA.ok at hc;unfold mI;split
 .exact⟨h.low,h.many,by simp only;omega,by simp only;omega⟩
 .exact h
theorem RF {c:cA}{x:Int}{l:Li}(hc:c.ok)(h:fP l):fP (dO c x l).2:=by
 unfold dO;split
 .exact h
 .split
  .exact A8 h
  .exact Bh (ER hc (A8 h))
theorem Lu {c:cA}{l:Li}(hc:c.ok)(h:fP l):fP (Vz c l).2:=by
 have a:=(Bh (m:=(l.low+1)/2) h).many;have b:=h.lim;have d:=h.nQ;unfold cA.ok at hc;refine⟨zD _,a,?_,?_⟩<;>simp only[Vz]<;>split<;>omega
theorem WiF {c:cA}{l:Li}(h:fP l):fP (Z9 c l).2:=Bh h
theorem Nk (c:cA)(hc:c.ok):Vz c im=([],im):=by
 unfold cA.ok at hc;simp[Vz,im,gO];omega
theorem PM (c:cA):Z9 c im=([],im):=by simp[Z9,im,gO]
def gQ.rem (t:gQ):gQ:={low:=min t.low (t.bs.length-1),bs:=t.bs.dropLast}
def gQ.tick (t:gQ):gQ:={low:=(t.bs.drop ((t.low+1)/2)).length,bs:=t.bs.drop ((t.low+1)/2)}
def gQ.out (t:gQ):List (List Int):=t.bs.take ((t.low+1)/2)
end Go.Ar
namespace Go.Proofs
open Go.Vc
set_option maxRecDepth 100000
def QL.h:Hn:=.q .o1 (.q .o3 .l)
def QL.v (a:Hp)(b:Option Addr->Hp->Prop):Prop:=aV #[.bool true,.pointer none,.pointer none,.pointer none,.pointer none,.pointer none,.pointer none,.pointer none,.pointer none,.pointer none,.pointer none,.pointer none,.pointer none,.pointer none,.pointer none,.pointer none,.pointer none] 352 a λc d=>b (some c) d
theorem QL.o {a b}(c:QL.v a b):QL.c a b:=Wa Tryz.func209 (x:=QL.h) (R0 c)
def X4.h:Hn:=.q .o1 (.q .o5 .l)
def X4.v (a:R2)(b c:Int)(d:Hp)(e:aN):Prop:=Y1.c a b c 0 d λf g=>e f g
theorem X4.o {a b c d e}(f:X4.v a b c d e):X4.c a b c d e:=Wa Tryz.func244 (x:=X4.h) (R0 f)
def XX.h:Hn:=.q .o1 (.q (.cU (.seq [.op,.op,.op,.cZ true 4 (RI.ops 4),.op])) .l)
def XX.v (a:R2)(b:Hp)(c:aO):Prop:=bX (λd e=>c d e) λf=>If (!a.isNone) (bH a 0 b λh=>f h b) (f false b)
theorem XX.o {a b c}(d:XX.v a b c):XX.c a b c:=Wa Tryz.func270 (x:=XX.h) (R0 d)
def Y1.h:Hn:=.q .o1 (.q (.k (.q .o4 (.c .aM (.q (.cU (.seq [.op,.op,.op,.cZ false 2 [.op,.op],.op,.cZ false 2 [.op,.op],.op,.cZ false 4 (RI.ops 4),.op])) .aK)))) (.q (.q .o2 (.k (.loop [(9,.I)] (.q (.q .o5 (.c .l .l)) (.q (.k .o4) .o3))))) .aM))
def Y1.v (a:R2)(b c d:Int)(e:Hp)(f:aN):Prop:=XX.c a e λg h=>If (!g) (f 5 h) (bX (λi j=>bX (λk l=>bX (λm n=>If m (f 1 n) (X9 [bO] (λo=>o b n) λp (q:Int) r=>bM (b+c) λs=>If (q<s) (ZB.c a q d r λt=>bM (q+1) λu=>p u t) (f 0 r))) λv=>If k (v true l) (bM (1024-b) λw=>v (decide (c>w)) l)) λx=>If i (x true j) (x (decide (b>1024)) j)) λy=>If (b<0) (y true h) (y (decide (c<1)) h))
theorem Y1.o {a b c d e f}(g:Y1.v a b c d e f):Y1.c a b c d e f:=Wa Tryz.func272 (x:=Y1.h) (R0 g)
def Yx.h:Hn:=.q .o1 (.q (.q (.cU (.seq [.op,.op,.op,.cZ true 6 [.op,.op,.op,.cZ false 2 [.op,.op]]])) .aK) (.q .o6 .l))
def Yx.v (a:R2)(b c d:Int)(e:Hp)(f:aN):Prop:=XX.c a e λg h=>bX (λi j=>If i (f 1 j) (Y1.c a b c d j λk l=>f k l)) λm=>If g (bX (λn o=>m n o) λp=>If (d<1) (p true h) (p (decide (d>1073741824)) h)) (m false h)
theorem Yx.o {a b c d e f}(g:Yx.v a b c d e f):Yx.c a b c d e f:=Wa Tryz.func289 (x:=Yx.h) (R0 g)
def Zx.h:Hn:=.q .o1 (.q (.q (.cU (.seq [.op,.op,.op,.op,.cZ false 2 [.op,.op],.op,.cZ false 2 [.op,.op]])) .aK) (.q .o9 (.q (.q (.cU (.seq [.op,.op,.op,.cZ false 8 (RI.ops 8)])) .aK) (.q (.o 13) .l))))
def Zx.v (a:R2)(b:Int)(c:Hp)(d:aN):Prop:=XX.c a c λe f=>bX (λg h=>bX (λi j=>If i (d 0 j) (Nz 8<|bM (b.tdiv 8) λk=>Nz 8<|bM (k.tdiv 8) λl=>bW a λm=>oK (m.add 1) 16 l 1 λn=>fZ n j λo=>bX (λp q=>If p (d 0 q) (Nz 8<|bM (b.tdiv 8) λr=>Nz 8 <| bW o λs=>oK s 8 (r.tmod 8) 1 λt=>fZ t q λu=>Nz 8 <| bW u λv=>oK v 8 (b.tmod 8) 1 λw=>bN w q λx=>d x q)) λy=>If o.isNone (y true j) (Nz 8<|bM (b.tdiv 8) λz=>Nz 8 <| bW o λaa=>oK aa 8 (z.tmod 8) 1 λab=>fZ ab j λac=>y ac.isNone j))) λad=>If g (ad true h) (ad (decide (b≥1024)) h)) λae=>If (!e) (ae true f) (ae (decide (b<0)) f)
theorem Zx.o {a b c d}(e:Zx.v a b c d):Zx.c a b c d:=Wa Tryz.func295 (x:=Zx.h) (R0 e)
def ZB.h:Hn:=.q .o9 (.q .o8 (.q .o7 (.kx [] (.q .o5 (.c .o7 .l)) (.q .o5 (.c .o8 .l)))))
def ZB.v (a:R2)(b c:Int)(d:Hp)(e:aP):Prop:=Nz 8<|bM (b.tdiv 8) λf=>Nz 8<|bM (f.tdiv 8) λg=>bW a λh=>oK (h.add 1) 16 g 1 λi=>WO.c (some i) d λj k=>Nz 8<|bM (b.tdiv 8) λl=>Nz 8 <| bW j λm=>oK m 8 (l.tmod 8) 1 λn=>WR.c (some n) k λo p=>Nz 8 <| bW o λq=>oK q 8 (b.tmod 8) 1 λr=>dG r (.I c) p λs=>Jn [] (λt=>bW j λu=>aY u 0 t λv=>aY u 1 t λw=>aY u 2 t λx=>aY u 3 t λy=>aY u 4 t λz=>aY u 5 t λaa=>aY u 6 t λab=>aY u 7 t λac=>If (v.isNone&&(w.isNone&&(x.isNone&&(y.isNone&&(z.isNone&&(aa.isNone&&(ab.isNone&&(ac.isNone&&true)))))))) (Nz 8<|bM (b.tdiv 8) λad=>Nz 8<|bM (ad.tdiv 8) λae=>bW a λaf=>oK (af.add 1) 16 ae 1 λag=>dG ag (.pointer none) t λah=>e ah) (e t)) λai=>bW o λaj=>aQ aj 0 s λak=>aQ aj 1 s λal=>aQ aj 2 s λam=>aQ aj 3 s λan=>aQ aj 4 s λao=>aQ aj 5 s λap=>aQ aj 6 s λaq=>aQ aj 7 s λar=>If ((ak==0)&&((al==0)&&((am==0)&&((an==0)&&((ao==0)&&((ap==0)&&((aq==0)&&((ar==0)&&true)))))))) (Nz 8<|bM (b.tdiv 8) λau=>Nz 8 <| bW j λav=>oK av 8 (au.tmod 8) 1 λaw=>dG aw (.pointer none) s λax=>ai ax) (ai s)
theorem ZB.o {a b c d e}(f:ZB.v a b c d e):ZB.c a b c d e:=Wa Tryz.func312 (x:=ZB.h) (R0 f)
def WO.h:Hn:=.q .o1 (.kx [] (.q .o4 (.c .o4 .l)) (.q .o4 .l))
def WO.v (a:R2)(b:Hp)(c:Option Addr->Hp->Prop):Prop:=Jn [] (λd=>bW a λe=>fZ e d λf=>c f d) λg=>bW a λh=>fZ h b λi=>If i.isNone (aV #[.pointer none,.pointer none,.pointer none,.pointer none,.pointer none,.pointer none,.pointer none,.pointer none] 402 b λj k=>bW a λl=>dG l (.pointer (some j)) k λm=>g m) (g b)
theorem WO.o {a b c}(d:WO.v a b c):WO.c a b c:=Wa Tryz.func337 (x:=WO.h) (R0 d)
def WR.h:Hn:=.q .o1 (.kx [] (.q .o4 (.c .o4 .l)) (.q .o4 .l))
def WR.v (a:R2)(b:Hp)(c:Option Addr->Hp->Prop):Prop:=Jn [] (λd=>bW a λe=>fZ e d λf=>c f d) λg=>bW a λh=>fZ h b λi=>If i.isNone (aV #[.I 0,.I 0,.I 0,.I 0,.I 0,.I 0,.I 0,.I 0] 406 b λj k=>bW a λl=>dG l (.pointer (some j)) k λm=>g m) (g b)
theorem WR.o {a b c}(d:WR.v a b c):WR.c a b c:=Wa Tryz.func338 (x:=WR.h) (R0 d)
end Go.Proofs
namespace Go.Ar
open Go Go.Vc Go.Proofs
open Go.Bu (ZF)
variable {U:Hp}{F:Rg}{p:Nat}{M Lf:Nat->Option Nat}{ow:Nat->Nat}
def eX {α:Type}(f:Nat->α)(k:Nat)(v:α):Nat->α:=λi=>if i=k then v else f i
theorem ZX {α:Type}(f:Nat->α)(k:Nat)(v:α):eX f k v k=v:=by simp[eX]
theorem QU {α:Type}(f:Nat->α){k i:Nat}(v:α)(h:i≠k):eX f k v i=f i:=by simp[eX,h]
theorem KU {α:Type}(f:Nat->α)(n k:Nat)(v:α):((List.range n).map f).set k v=(List.range n).map (eX f k v):=by
 apply zt;intro i;by_cases hik:i=k
 .subst hik;rcases kv i n with h|h
  .rw[zO (by simpa using h)];simp[nR h,eX]
  .rw[zX (by simpa using h),zX (by simpa using h)]
 .rw[zh (Ne.symm hik)];simp only[zZ];rcases kv i n with h|h
  .simp[nR h,eX,hik]
  .simp[zX (show(List.range n).length<=i by simpa using h)]
theorem KP {α:Type}(f:Nat->α){n k:Nat}(h:k<n):((List.range n).map f)[k]?=some (f k):=by simp[nR h]
def ptr (o:Option Nat):Value:=.pointer (o.map λq=>⟨q,0,none⟩)
structure kc (U:Hp) (F:Rg) (p:Nat) (M Lf:Nat->Option Nat) (ow:Nat->Nat):Prop where
 hd:bY U p (.bool true::(List.range 16).map λi=>ptr (M i))
 jn:∀i q,i<16->M i=some q->bY U q ((List.range 8).map λj=>ptr (Lf (8*i+j)))
 lB:∀i,i<16->M i=none->∀j,j<8->Lf (8*i+j)=none
 leaf:∀k q,k<128->Lf k=some q->bY U q ((List.range 8).map λj=>.int .i64 ((ow (8*k+j):Nat):Int))
 iO:∀k,k<128->Lf k=none->∀j,j<8->ow (8*k+j)=0
 fp:F p
 fm:∀i q,i<16->M i=some q->F q/\q≠p
 fl:∀k q,k<128->Lf k=some q->F q/\q≠p
 mm:∀i j q,i<16->j<16->M i=some q->M j=some q->i=j
 ll:∀i j q,i<128->j<128->Lf i=some q->Lf j=some q->i=j
 ml:∀i k q,i<16->k<128->M i=some q->Lf k≠some q
def jl (U:Hp)(F:Rg)(p:Nat)(ow:Nat->Nat):Prop:=∃M Lf,kc U F p M Lf ow
theorem kc.move {σ':Hp}{G:Rg}(h:kc U F p M Lf ow)(hb:∀b,b<U.size->F b->σ'[b]?=U[b]?)(hg:∀b,b<U.size->F b->G b):kc σ' G p M Lf ow:=by
 have g:∀{b:Nat} {cs:List Value},bY U b cs->F b->bY σ' b cs:=by
  rintro b cs ⟨e,j⟩ m;exact⟨e,(hb b (bY.lt ⟨e,j⟩) m).trans j⟩
 exact⟨g h.hd h.fp,λi q hi a=>g (h.jn i q hi a) (h.fm i q hi a).1,h.lB,λk q d a=>g (h.leaf k q d a) (h.fl k q d a).1,h.iO,hg p h.hd.lt h.fp,
  λi q hi a=>⟨hg q (h.jn i q hi a).lt (h.fm i q hi a).1,(h.fm i q hi a).2⟩,λk q d a=>⟨hg q (h.leaf k q d a).lt (h.fl k q d a).1,(h.fl k q d a).2⟩,h.mm,h.ll,h.ml⟩
theorem jl.loc:dP λU F=>jl U F p ow:=λU j F G ⟨M,Lf,h⟩ i g=>⟨M,Lf,h.move (λb a d=>(g b a d).2) λb a d=>(g b a d).1⟩
theorem jl.congr {ow':Nat->Nat}(h:jl U F p ow)(he:∀x,x<1024->ow x=ow' x):jl U F p ow':=by
 obtain⟨M,Lf,h⟩:=h;refine⟨M,Lf,h.hd,h.jn,h.lB,λk q b d=>?_,λk b d j a=>?_,h.fp,h.fm,h.fl,h.mm,h.ll,h.ml⟩
 .have:=h.leaf k q b d;have e:((List.range 8).map λj=>Value.int .i64 ((ow (8*k+j):Nat):Int))=(List.range 8).map λj=>Value.int .i64 ((ow' (8*k+j):Nat):Int):=by
   apply kh;intro j a;rw[zg]at a;rw[he _ O]
  rw[←e];exact this
 .rw[←he _ O];exact h.iO k b d j a
theorem Dv (h:jl U F p ow){R:aO}(hR:R true U):XX.c (aW p) U R:=by
 refine XX.o ?_;unfold XX.v;obtain⟨M,Lf,h⟩:=h;exact bX.intro (cF rfl (bL (h.hd.rB rfl hR)))
theorem su {a:Addr}{n i sz:Nat}{K:Addr->Prop}(hi:i<n)(hK:K (a.add (i*sz))):oK a n (i:Int) sz K:=⟨O,O,by simpa using hK⟩
theorem kc.rM (h:kc U F p M Lf ow){i:Nat}(hi:i<16){K:Option Addr->Prop}(hK:K ((M i).map λq=>⟨q,0,none⟩)):fZ ⟨p,1+i,none⟩ U K:=by
 refine h.hd.qW ?_ hK;rw[Nat.add_comm,Aq,KP _ hi];rfl
theorem kc.rL (h:kc U F p M Lf ow){i j q:Nat}(hi:i<16)(hq:M i=some q)(hj:j<8){K:Option Addr->Prop}(hK:K ((Lf (8*i+j)).map λq=>⟨q,0,none⟩)):fZ ⟨q,j,none⟩ U K:=
 (h.jn i q hi hq).qW (KP _ hj) hK
theorem kc.rN (h:kc U F p M Lf ow){k j q:Nat}(hk:k<128)(hq:Lf k=some q)(hj:j<8){K:Int->Prop}(hK:K ((ow (8*k+j):Nat):Int)):gL .i64 ⟨q,j,none⟩ U K:=
 (h.leaf k q hk hq).uo (KP _ hj) hK
def rR (ow:Nat->Nat)(x:Int):Nat:=if 0<=x/\x<1024 then ow x.toNat else 0
theorem NZ (h:jl U F p ow)(x:Int){R:aN}(hR:R ((rR ow x:Nat):Int) U):Zx.c (aW p) x U R:=by
 refine Zx.o ?_;unfold Zx.v;have A:=h;obtain⟨M,Lf,h⟩:=h;refine Dv A (bX.intro (cD rfl (bX.intro (cN (λm=>cF rfl ?_) λm=>?_))))
 .have:rR ow x=0:=by unfold rR;rw[zB O]
  rw[this]at hR;exact hR
 refine cN (λu=>?_) λj=>?_
 .have:rR ow x=0:=by unfold rR;rw[zB O]
  rw[this]at hR;exact hR
 obtain⟨y,rfl⟩:=zc (show 0<=x by omega);have B:y<1024:=O
 have s:rR ow (y:Int)=ow y:=by unfold rR;rw[zC O];rfl
 rw[s]at hR;have b:((y:Int).tdiv 8)=((y/8:Nat):Int):=by rw[YU O];simp
 have w:(((y/8:Nat):Int).tdiv 8)=((y/8/8:Nat):Int):=by rw[YU O];simp
 have g:(((y/8:Nat):Int).tmod 8)=((y/8%8:Nat):Int):=by rw[Ki O];simp
 have z:((y:Int).tmod 8)=((y%8:Nat):Int):=by rw[Ki O];simp
 have d:8*(y/8/8)+y/8%8=y/8:=O
 have a:8*(y/8)+y%8=y:=O
 refine nz aB (cT b O (nz aB (cT w O (bL ?_))));refine su O ?_;rw[add_lit,add_lit,zH,nL];refine h.rM O (bX.intro ?_);cases hM:M (y/8/8)with
 | none=>
  refine cF rfl (cF rfl ?_);have i:=h.lB _ O hM (y/8%8) O;rw[d]at i;have:=h.iO _ O i (y%8) O;rw[a]at this;rw[this]at hR;exact hR
 | some q=>
  refine cD rfl (nz aB (cT b O (nz aB (bL ?_))));rw[g];refine su O ?_;rw[add_lit,zH,nL];refine h.rL O hM O ?_;rw[d];cases hL:Lf (y/8)with
  | none=>
   refine cF rfl ?_;have:=h.iO _ O hL (y%8) O;rw[a]at this;rw[this]at hR;exact hR
  | some r=>
   refine cD rfl (nz aB (cT b O (nz aB (bL ?_))));rw[g];refine su O ?_;rw[add_lit,zH,nL];refine h.rL O hM O ?_;rw[d,hL];refine nz aB (bL ?_);rw[z];refine su O ?_;rw[add_lit,zH,nL];refine h.rN O hL O ?_;rw[a];exact hR
theorem Mz {R:Option Addr->Hp->Prop}(hR:∀σ' p,aF U σ'->U.size<=p->jl σ' (λb=>U.size<=b) p (λ_=>0)->R (some ⟨p,0,none⟩) σ'):QL.c U R:=by
 refine QL.o ?_;unfold QL.v;refine nw (cs:=[.bool true,.pointer none,.pointer none,.pointer none,.pointer none,.pointer none,.pointer none,.pointer none,.pointer none,.pointer none,.pointer none,.pointer none,.pointer none,.pointer none,.pointer none,.pointer none,.pointer none]) λv d e a=>?_;refine hR v _ e (zD _) ⟨λ_=>none,λ_=>none,a,?_,?_,?_,?_,zD _,?_,?_,?_,?_,?_⟩<;>intros<;>simp_all
theorem WiO (h:kc U F p M Lf ow){i:Nat}(hi:i<16){R:Option Addr->Hp->Prop}
 (hR:∀σ' M' q,Ext F U σ'->M' i=some q->kc σ' (Grow F U) p M' Lf ow->R (some ⟨q,0,none⟩) σ'):WO.c (some ⟨p,1+i,none⟩) U R:=by
 refine WO.o ?_;unfold WO.v;refine Jn.intro (bL (h.rM hi ?_));cases hM:M i with
 | some q=>exact cD rfl (bL (h.rM hi (by rw[hM];exact hR U M q (Ext.refl _ _) hM (h.move (λ_ _ _=>rfl) λ_ _ C=>.inl C))))
 | none=>
  refine cF rfl (nw (cs:=[.pointer none,.pointer none,.pointer none,.pointer none,.pointer none,.pointer none,.pointer none,.pointer none]) λD E e1 z=>bL ?_);have G:=h.hd.lt;refine(e1.bV h.hd id).s0 aE λx o2 w=>?_;have s:(Value.bool true::(List.range 16).map λi=>ptr (M i)).set (1+i) (.pointer (some ⟨U.size,0,none⟩))=.bool true::(List.range 16).map λj=>ptr (eX M i (some U.size) j):=by
   rw[Nat.add_comm,tG,KU]
   congr 1
   apply kh;intro j _;simp only[eX];split<;>rfl
  rw[s]at w;have u:∀{b:Nat} {cs:List Value},bY U b cs->b≠p->bY x b cs:=λy A=>WF o2 (e1.bV y id) A;have B:kc x (Grow F U) p (eX M i (some U.size)) Lf ow:=by
   refine⟨w,λj q g a=>?_,λj g a=>?_,λk q d a=>u (h.leaf k q d a) (h.fl k q d a).2,h.iO,.inl h.fp,λj q g a=>?_,λk q d a=>⟨.inl (h.fl k q d a).1,(h.fl k q d a).2⟩,λj k q g d r m=>?_,h.ll,λj k q g d a=>?_⟩
   .by_cases hji:j=i
    .subst hji;rw[ZX]at a;cases a;have A:=h.lB j g hM;have:((List.range 8).map λk=>ptr (Lf (8*j+k)))=[.pointer none,.pointer none,.pointer none,.pointer none,.pointer none,.pointer none,.pointer none,.pointer none]:=by
      have:((List.range 8).map λk=>ptr (Lf (8*j+k)))=(List.range 8).map λ_=>Value.pointer none:=by
       apply kh;intro k d;rw[zg]at d;rw[A k d];rfl
      rw[this];rfl
     rw[this];exact WF o2 z O
    .rw[QU _ _ hji]at a;exact u (h.jn j q g a) (h.fm j q g a).2
   .by_cases hji:j=i
    .subst hji;rw[ZX]at a;cases a
    .rw[QU _ _ hji]at a;exact h.lB j g a
   .by_cases hji:j=i
    .subst hji;rw[ZX]at a;cases a;exact⟨.inr (zD _),O⟩
    .rw[QU _ _ hji]at a;exact⟨.inl (h.fm j q g a).1,(h.fm j q g a).2⟩
   .by_cases hji:j=i
    .by_cases hki:k=i
     .omega
     .subst hji;rw[ZX]at r;cases r;rw[QU _ _ hki]at m;have:=(h.jn k _ d m).lt;omega
    .rw[QU _ _ hji]at r;by_cases hki:k=i
     .subst hki;rw[ZX]at m;cases m;have:=(h.jn j _ g r).lt;omega
     .rw[QU _ _ hki]at m;exact h.mm j k q g d r m
   .by_cases hji:j=i
    .subst hji;rw[ZX]at a;cases a;intro hl;have:=(h.leaf k _ d hl).lt;omega
    .rw[QU _ _ hji]at a;exact h.ml j k q g d a
  refine bL (B.rM hi ?_);rw[ZX];exact hR x _ U.size (e1.to.trans (o2.ext.sub λb y=>y▸h.fp)) (ZX _ _ _) B
theorem Τ (h:kc U F p M Lf ow){i j q:Nat}(hi:i<16)(hj:j<8)(hq:M i=some q){R:Option Addr->Hp->Prop}
 (hR:∀σ' L' r,Ext F U σ'->L' (8*i+j)=some r->kc σ' (Grow F U) p M L' ow->R (some ⟨r,0,none⟩) σ'):WR.c (some ⟨q,j,none⟩) U R:=by
 refine WR.o ?_;unfold WR.v;have V:8*i+j<128:=O
 refine Jn.intro (bL (h.rL hi hq hj ?_));cases hL:Lf (8*i+j)with
 | some r=>exact cD rfl (bL (h.rL hi hq hj (by rw[hL];exact hR U Lf r (Ext.refl _ _) hL (h.move (λ_ _ _=>rfl) λ_ _ G=>.inl G))))
 | none=>
  refine cF rfl (nw (cs:=[.int .i64 0,.int .i64 0,.int .i64 0,.int .i64 0,.int .i64 0,.int .i64 0,.int .i64 0,.int .i64 0]) λW X e1 K=>bL ?_);have Q:=h.jn i q hi hq;have S:=Q.lt;have G:=h.fm i q hi hq;refine(e1.bV Q id).s0 aE λH o2 z=>?_;have y:∀{b:Nat} {cs:List Value},bY U b cs->b≠q->bY H b cs:=λJ L=>WF o2 (e1.bV J id) L;have P:kc H (Grow F U) p M (eX Lf (8*i+j) (some U.size)) ow:=by
   refine⟨y h.hd (Ne.symm G.2),λm x g a=>?_,λm g a A N=>?_,λk r d s=>?_,λk d s=>?_,.inl h.fp,λm x g a=>⟨.inl (h.fm m x g a).1,(h.fm m x g a).2⟩,λk r d s=>?_,h.mm,λk E r C D w u=>?_,λm k x g d a=>?_⟩
   .by_cases hii:m=i
    .subst hii;rw[hq]at a;cases a;rw[KU]at z;have:((List.range 8).map (eX (λj=>ptr (Lf (8*m+j))) j (.pointer (some ⟨U.size,0,none⟩))))=(List.range 8).map λk=>ptr (eX Lf (8*m+j) (some U.size) (8*m+k)):=by
      apply kh;intro k _;simp only[eX];by_cases hkj:k=j
      .subst hkj;simp[ptr]
      .have:¬8*m+k=8*m+j:=O
       simp[hkj,this]
     rw[this]at z;exact z
    .have B:x≠q:=λe=>by subst e;exact hii (h.mm m i x g hi a hq)
     have:=y (h.jn m x g a) B;have e:((List.range 8).map λk=>ptr (eX Lf (8*i+j) (some U.size) (8*m+k)))=(List.range 8).map λk=>ptr (Lf (8*m+k)):=by
      apply kh;intro k d;rw[zg]at d;rw[QU _ _ O]
     rw[e];exact this
   .have B:m≠i:=λe=>by subst e;rw[hq]at a;cases a
    rw[QU _ _ O];exact h.lB m g a A N
   .by_cases hkk:k=8*i+j
    .subst hkk;rw[ZX]at s;cases s;have L:=h.iO _ V hL;have:((List.range 8).map λA=>Value.int .i64 ((ow (8*(8*i+j)+A):Nat):Int))=[.int .i64 0,.int .i64 0,.int .i64 0,.int .i64 0,.int .i64 0,.int .i64 0,.int .i64 0,.int .i64 0]:=by
      have:((List.range 8).map λA=>Value.int .i64 ((ow (8*(8*i+j)+A):Nat):Int))=(List.range 8).map λ_=>Value.int .i64 0:=by
       apply kh;intro k d;rw[zg]at d;rw[L k d];rfl
      rw[this];rfl
     rw[this];exact WF o2 K O
    .rw[QU _ _ hkk]at s;exact y (h.leaf k r d s) λe=>by subst e;exact h.ml i k r hi d hq s
   .by_cases hkk:k=8*i+j
    .subst hkk;rw[ZX]at s;cases s
    .rw[QU _ _ hkk]at s;exact h.iO k d s
   .by_cases hkk:k=8*i+j
    .subst hkk;rw[ZX]at s;cases s;have:=h.hd.lt;exact⟨.inr (zD _),O⟩
    .rw[QU _ _ hkk]at s;exact⟨.inl (h.fl k r d s).1,(h.fl k r d s).2⟩
   .by_cases e1':k=8*i+j
    .by_cases e2':E=8*i+j
     .omega
     .subst e1';rw[ZX]at w;cases w;rw[QU _ _ e2']at u;have:=(h.leaf E _ D u).lt;omega
    .rw[QU _ _ e1']at w;by_cases e2':E=8*i+j
     .subst e2';rw[ZX]at u;cases u;have:=(h.leaf k _ C w).lt;omega
     .rw[QU _ _ e2']at u;exact h.ll k E r C D w u
   .by_cases hkk:k=8*i+j
    .subst hkk;rw[ZX];intro e;cases e;have:=(h.jn m _ g a).lt;omega
    .rw[QU _ _ hkk];exact h.ml m k x g d a
  refine bL (P.rL hi hq hj ?_);rw[ZX];exact hR H _ U.size (e1.to.trans (o2.ext.sub λb J=>J▸G.1)) (ZX _ _ _) P
theorem RG (h:kc U F p M Lf ow){k r j no:Nat}(hk:k<128)(hr:Lf k=some r)(hj:j<8){σ':Hp}(ho:Ka U σ' r)(hb:bY σ' r (((List.range 8).map λj=>Value.int .i64 ((ow (8*k+j):Nat):Int)).set j (.int .i64 (no:Int)))) :
 kc σ' F p M Lf (eX ow (8*k+j) no):=by
 refine⟨WF ho h.hd (Ne.symm (h.fl k r hk hr).2),λi q hi x=>WF ho (h.jn i q hi x) λe=>by subst e;exact h.ml i k q hi hk x hr,h.lB,λd s g b=>?_,λd g b u w=>?_,h.fp,h.fm,h.fl,h.mm,h.ll,h.ml⟩
 .by_cases hkk:d=k
  .subst hkk;rw[hr]at b;cases b;rw[KU]at hb;have:((List.range 8).map (eX (λj=>Value.int .i64 ((ow (8*d+j):Nat):Int)) j (.int .i64 (no:Int))))=(List.range 8).map λu=>Value.int .i64 ((eX ow (8*d+j) no (8*d+u):Nat):Int):=by
    apply kh;intro a _;simp only[eX];by_cases haj:a=j
    .subst haj;simp
    .have:¬8*d+a=8*d+j:=O
     simp[haj,this]
   rw[this]at hb;exact hb
  .have m:s≠r:=λe=>by subst e;exact hkk (h.ll d k s g hk b hr)
   have:=WF ho (h.leaf d s g b) m;have e:((List.range 8).map λa=>Value.int .i64 ((eX ow (8*k+j) no (8*d+a):Nat):Int))=(List.range 8).map λa=>Value.int .i64 ((ow (8*d+a):Nat):Int):=by
    apply kh;intro a ha;rw[zg]at ha;rw[QU _ _ O]
   rw[e];exact this
 .have m:d≠k:=λe=>by subst e;rw[hr]at b;cases b
  rw[QU _ _ O];exact h.iO d g b u w
theorem η (h:kc U F p M Lf ow){i j q:Nat}(hi:i<16)(hj:j<8)(hq:M i=some q)(hz:∀a,a<8->ow (8*(8*i+j)+a)=0){σ':Hp}(ho:Ka U σ' q)(hb:bY σ' q (((List.range 8).map λj=>ptr (Lf (8*i+j))).set j (.pointer none))) :
 kc σ' F p M (eX Lf (8*i+j) none) ow:=by
 have G:=h.fm i q hi hq;refine⟨WF ho h.hd (Ne.symm G.2),λd y g b=>?_,λd g b E C=>?_,λk r x m=>?_,λk x m=>?_,h.fp,h.fm,λk r x m=>?_,h.mm,λk D r A B u s=>?_,λd k y g w b=>?_⟩
 .by_cases hii:d=i
  .subst hii;rw[hq]at b;cases b;rw[KU]at hb;have:((List.range 8).map (eX (λj=>ptr (Lf (8*d+j))) j (.pointer none)))=(List.range 8).map λk=>ptr (eX Lf (8*d+j) none (8*d+k)):=by
    apply kh;intro k _;simp only[eX];by_cases hkj:k=j
    .subst hkj;simp[ptr]
    .have:¬8*d+k=8*d+j:=O
     simp[hkj,this]
   rw[this]at hb;exact hb
  .have z:y≠q:=λe=>by subst e;exact hii (h.mm d i y g hi b hq)
   have:=WF ho (h.jn d y g b) z;have e:((List.range 8).map λk=>ptr (eX Lf (8*i+j) none (8*d+k)))=(List.range 8).map λk=>ptr (Lf (8*d+k)):=by
    apply kh;intro k w;rw[zg]at w;rw[QU _ _ O]
   rw[e];exact this
 .simp only[eX];split
  .rfl
  .exact h.lB d g b E C
 .by_cases hkk:k=8*i+j
  .subst hkk;rw[ZX]at m;cases m
  .rw[QU _ _ hkk]at m;exact WF ho (h.leaf k r x m) λe=>by subst e;exact h.ml i k r hi x hq m
 .by_cases hkk:k=8*i+j
  .subst hkk;exact hz
  .rw[QU _ _ hkk]at m;exact h.iO k x m
 .by_cases hkk:k=8*i+j
  .subst hkk;rw[ZX]at m;cases m
  .rw[QU _ _ hkk]at m;exact h.fl k r x m
 .by_cases e1':k=8*i+j
  .subst e1';rw[ZX]at u;cases u
  .rw[QU _ _ e1']at u;by_cases e2':D=8*i+j
   .subst e2';rw[ZX]at s;cases s
   .rw[QU _ _ e2']at s;exact h.ll k D r A B u s
 .by_cases hkk:k=8*i+j
  .subst hkk;rw[ZX];intro e;cases e
  .rw[QU _ _ hkk];exact h.ml d k y g w b
theorem To (h:kc U F p M Lf ow){i:Nat}(hi:i<16)(hz:∀j,j<8->Lf (8*i+j)=none){σ':Hp}(ho:Ka U σ' p)(hb:bY σ' p ((Value.bool true::(List.range 16).map λi=>ptr (M i)).set (1+i) (.pointer none))) :
 kc σ' F p (eX M i none) Lf ow:=by
 have r:(Value.bool true::(List.range 16).map λi=>ptr (M i)).set (1+i) (.pointer none)=.bool true::(List.range 16).map λj=>ptr (eX M i none j):=by
  rw[Nat.add_comm,tG,KU]
  congr 1
  apply kh;intro j _;simp only[eX];split<;>rfl
 rw[r]at hb;have m:∀{j q},eX M i none j=some q->M j=some q:=λ{j q} d=>by
  by_cases hji:j=i
  .subst hji;rw[ZX]at d;cases d
  .rwa [QU _ _ hji]at d
 refine⟨hb,λj q g d=>WF ho (h.jn j q g (m d)) (h.fm j q g (m d)).2,λj g d=>?_,λk q s d=>WF ho (h.leaf k q s d) (h.fl k q s d).2,h.iO,h.fp,λj q g d=>h.fm j q g (m d),h.fl,λa b q u hb w x=>h.mm a b q u hb (m w) (m x),h.ll,λa k q u s d=>h.ml a k q u s (m d)⟩;by_cases hji:j=i
 .subst hji;exact hz
 .rw[QU _ _ hji]at d;exact h.lB j g d
theorem Se (h:jl U F p ow){x no:Nat}(hx:x<1024){R:aP}(hR:∀σ',Ext F U σ'->jl σ' (Grow F U) p (eX ow x no)->R σ'):ZB.c (aW p) (x:Int) (no:Int) U R:=by
 refine ZB.o ?_;unfold ZB.v;obtain⟨M,Lf,h⟩:=h;have P:((x:Int).tdiv 8)=((x/8:Nat):Int):=by rw[YU O];simp
 have t2:(((x/8:Nat):Int).tdiv 8)=((x/8/8:Nat):Int):=by rw[YU O];simp
 have t3:(((x/8:Nat):Int).tmod 8)=((x/8%8:Nat):Int):=by rw[Ki O];simp
 have t4:((x:Int).tmod 8)=((x%8:Nat):Int):=by rw[Ki O];simp
 have hk:8*(x/8/8)+x/8%8=x/8:=O
 have Y:8*(x/8)+x%8=x:=O
 refine nz aB (cT P O (nz aB (cT t2 O (bL ?_))));refine su O ?_;rw[add_lit,add_lit,zH,nL];refine WiO h O λv1 M1 q e1 G h1=>?_;refine nz aB (cT P O (nz aB (bL ?_)));rw[t3];refine su O ?_;rw[add_lit,zH,nL];refine Τ h1 O O G λv2 L2 r e2 H h2=>?_;rw[hk]at H;have S:Ext F U v2:=e1.jC e2;refine nz aB (bL ?_);rw[t4];refine su O ?_;rw[add_lit,zH,nL];have u:x/8<128:=O
 refine(h2.leaf _ r u H).s0 aE λv3 o3 b3=>?_;have A:=RG h2 u H O o3 b3;rw[Y]at A;have a:∀b,Grow (Grow F U) v1 b->Grow F U b:=λb y=>by
  rcases y with h|h
  .exact h
  .exact .inr (kD e1.1 h)
 have J:Ext F U v3:=S.dX o3.ext λb y=>by subst y;exact a _ (h2.fl _ _ u H).1
 have tail:∀v L4,Ext F U v->kc v (Grow (Grow F U) v1) p M1 L4 (eX ow x no) →
  (bW (some ⟨q,0,none⟩) λd=>fZ (d.add 0) v λt42=>fZ (d.add 1) v λN=>fZ (d.add 2) v λK=>fZ (d.add 3) v λC=>fZ (d.add 4) v λL=>fZ (d.add 5) v λE=>fZ (d.add 6) v λD=>fZ (d.add 7) v λB=>
   If (t42.isNone&&(N.isNone&&(K.isNone&&(C.isNone&&(L.isNone&&(E.isNone&&(D.isNone&&(B.isNone&&true)))))))) (Nz 8<|Ar .i64 ((x:Int).tdiv 8) λt47=>Nz 8<|Ar .i64 (t47.tdiv 8) λt48=>bW (some ⟨p,0,none⟩) λW=>oK (W.add 1) 16 t48 1 λa51=>dG a51 (.pointer none) v λv4=>R v4) (R v)):=by
  intro v L4 ev h4;have s:=h4.jn _ q O G;have g:∀j,j<8->((List.range 8).map λj=>ptr (L4 (8*(x/8/8)+j)))[0+j]?=some (.pointer ((L4 (8*(x/8/8)+j)).map λq=>⟨q,0,none⟩)):=λj z=>by rw[zH,KP _ z];rfl
  refine bL (s.rP (g 0 O) (s.rP (g 1 O) (s.rP (g 2 O) (s.rP (g 3 O) (s.rP (g 4 O) (s.rP (g 5 O) (s.rP (g 6 O) (s.rP (g 7 O) ?_))))))));have fin:∀w,Ext F U w->jl w (Grow (Grow F U) v1) p (eX ow x no)->R w:=λw ew hw=>hR w ew (jl.loc.mono hw λb _ y=>a b y);refine cP (λm=>?_) λ_=>fin v ev ⟨_,_,h4⟩;have hz:∀j,j<8->L4 (8*(x/8/8)+j)=none:=by
   simp only[Option.isNone_map,vv,zF,Option.isNone_iff_eq_none]at m;intro j z;obtain⟨a0,Q,a2,a3,a4,Z,X,V⟩:=m
   match j,z with
   | 0,_=>exact a0
   | 1,_=>exact Q
   | 2,_=>exact a2
   | 3,_=>exact a3
   | 4,_=>exact a4
   | 5,_=>exact Z
   | 6,_=>exact X
   | 7,_=>exact V
  refine nz aB (cT P O (nz aB (cT t2 O (bL ?_))));refine su O ?_;rw[add_lit,add_lit,zH,nL];refine h4.hd.s0 aE λv4 o4 b4=>fin v4 (ev.dX o4.ext λb y=>by subst y;exact a _ h4.fp) ⟨_,_,To h4 O hz o4 b4⟩
 refine Jn.intro (bL ?_);have i:=A.leaf _ r u H;have g:∀j,j<8->((List.range 8).map λj=>Value.int .i64 ((eX ow x no (8*(x/8)+j):Nat):Int))[0+j]?=some (.int .i64 ((eX ow x no (8*(x/8)+j):Nat):Int)):=λj z=>by rw[zH,KP _ z]
 refine i.rI (g 0 O) (i.rI (g 1 O) (i.rI (g 2 O) (i.rI (g 3 O) (i.rI (g 4 O) (i.rI (g 5 O) (i.rI (g 6 O) (i.rI (g 7 O) ?_)))))));refine cP (λm=>?_) λ_=>tail v3 L2 J A;have hz:∀j,j<8->eX ow x no (8*(8*(x/8/8)+x/8%8)+j)=0:=by
  rw[hk];simp only[ye,vv,zF,zU]at m;intro j z;obtain⟨a0,Q,a2,a3,a4,Z,X,V⟩:=m
  match j,z with
  | 0,_=>exact a0
  | 1,_=>exact Q
  | 2,_=>exact a2
  | 3,_=>exact a3
  | 4,_=>exact a4
  | 5,_=>exact Z
  | 6,_=>exact X
  | 7,_=>exact V
 refine nz aB (cT P O (nz aB (bL ?_)));rw[t3];refine su O ?_;rw[add_lit,zH,nL];have s:=A.jn _ q O G;refine s.s0 aE λv5 o5 b5=>?_;exact tail v5 _ (J.dX o5.ext λb y=>by subst y;exact a _ (A.fm _ _ O G).1) (η A O O G hz o5 b5)
def jO (ow:Nat->Nat)(a m no:Nat):Nat->Nat:=if ZF 1024 a m then λp=>if a<=p/\p<a+m then no else ow p else ow
def wC (a m:Int):Int:=if ZF 1024 a m then 0 else 1
theorem IM (h:jl U F p ow)(a m:Int)(ha : -1000000000000<=a)(ha2:a<=1000000000000)(no:Nat){R:aN}(h1:ZF 1024 a m=false->R 1 U)
 (hR:∀x y:Nat,a=x->m=y->1<=y->x+y<=1024->∀σ',Ext F U σ'->jl σ' (Grow F U) p (jO ow x y no)->R 0 σ'):Y1.c (aW p) a m (no:Int) U R:=by
 refine Y1.o ?_;unfold Y1.v;have d:¬(0<=a/\1<=m/\m<=1024-a)->R 1 U:=λD=>h1 (by simp only[ZF,←wh];exact zL D);refine Dv h (cD rfl (bX.intro (cN (λC=>bX.intro (cF rfl (bX.intro (cF rfl (cF rfl (d O)))))) λC=>?_)));refine bX.intro (cN (λw=>bX.intro (cF rfl (cF rfl (d O)))) λw=>?_);refine bX.intro (cN (λE=>cF rfl (d O)) λE=>ar O O (cN (λG=>d O) λG=>?_));obtain⟨x,rfl⟩:=zc (show 0<=a by omega);obtain⟨y,rfl⟩:=zc (show 0<=m by omega);have g:ZF 1024 (x:Int) (y:Int)=true:=by simp only[ZF,zF,zV];omega
 refine Qg (a:=bO) (λ(t:Int) v=>∃i:Nat,t=((x+i:Nat):Int)/\i<=y/\Ext F U v/\jl v (Grow F U) p (λz=>if x<=z/\z<x+i then no else ow z)) (λt _=>x+y-t.toNat) ⟨0,rfl,O,Ext.refl _ _,?_⟩ ?_
 .have:(λz=>if x<=z/\z<x+0 then no else ow z)=ow:=by
   funext z;rw[zB O]
  rw[this];exact jl.loc.mono h λb _ j=>.inl j
 rintro t v ⟨i,rfl,hi,e,r⟩;refine cT (m:=x+y) O O (cN (λu=>?_) λA=>?_)
 .refine Se r O λJ B s=>cT (m:=x+(i+1)) O O ⟨⟨i+1,rfl,O,e.jC B,?_⟩,O⟩;refine jl.congr (jl.loc.mono s λb _ j=>?_) λz H=>?_
  .rcases j with h|h
   .exact h
   .exact .inr (kD e.1 h)
  .simp only[eX];by_cases hzi:z=x+i
   .subst hzi;rw[zC rfl,zC O]
   .rw[zB hzi];by_cases hin:x<=z/\z<x+i
    .rw[zC hin,zC O]
    .rw[zB hin,zB O]
 .have:i=y:=O
  subst this;refine hR x i rfl rfl O O v e ?_;unfold jO;rw[g];exact r
theorem SO (h:jl U F p ow)(a m:Nat)(ha:a<=1000000){no:Nat}(hno:1<=no)(hno2:no<=1000){R:aN}(hR:∀σ',Ext F U σ'->jl σ' (Grow F U) p (jO ow a m no)->R (wC a m) σ'):Yx.c (aW p) a m (no:Int) U R:=by
 refine Yx.o ?_;unfold Yx.v;refine Dv h (bX.intro (cF rfl (bX.intro (gA O (gA O ?_)))));refine IM h a m O O no (λj=>?_) λx y A z u w σ' e r=>?_
 .have:=hR U (Ext.refl _ _) (by unfold jO;rw[j];exact jl.loc.mono h λb _ s=>.inl s);unfold wC at this;rw[j]at this;exact this
 .have i:a=x:=O
  have d:m=y:=O
  subst i;subst d;have g:ZF 1024 (a:Int) (m:Int)=true:=by simp only[ZF,zF,zV];omega
  have:=hR σ' e r;unfold wC at this;rw[g]at this;exact this
theorem TY (h:jl U F p ow)(a m:Nat)(ha:a<=1000000){R:aN}(hR:∀σ',Ext F U σ'->jl σ' (Grow F U) p (jO ow a m 0)->R (wC a m) σ'):X4.c (aW p) a m U R:=by
 refine X4.o ?_;unfold X4.v;refine IM h a m O O 0 (λj=>?_) λx y A z u w σ' e r=>?_
 .have:=hR U (Ext.refl _ _) (by unfold jO;rw[j];exact jl.loc.mono h λb _ s=>.inl s);unfold wC at this;rw[j]at this;exact this
 .have i:a=x:=O
  have d:m=y:=O
  subst i;subst d;have g:ZF 1024 (a:Int) (m:Int)=true:=by simp only[ZF,zF,zV];omega
  have:=hR σ' e r;unfold wC at this;rw[g]at this;exact this
end Go.Ar
namespace Go.Proofs
open Go.Shelf
def Tryz.iG:Go.Shelf.Ren:=⟨fun|7=>317|10=>340|n=>n,fun|23=>73|26=>3|3=>4|28=>116|0=>0|27=>115|33=>118|4=>4|n=>n,fun|n=>n⟩
theorem Tryz.nv:Go.Proofs.SlLaysZI.n7 Tryz.prog Tryz.iG:={
 mixed:=by kernel_rfl
 f7:=⟨Tryz.f317.name,by decide,Tryz.func317.trans (congrArg some (by kernel_rfl))⟩
 f10:=⟨Tryz.f340.name,by decide,Tryz.func340.trans (congrArg some (by kernel_rfl))⟩
 t0:=Tryz.underlying0
 a0:=Tryz.isAgg0
 z0:=Tryz.sizeOf0
 v0:=Tryz.zeroValue0
 t4:=Tryz.underlying4
 a4:=Tryz.isAgg4
 z4:=Tryz.sizeOf4
 v4:=Tryz.zeroValue4
 t23:=Tryz.underlying73
 a23:=Tryz.isAgg73
 z23:=Tryz.sizeOf73
 v23:=Tryz.zeroValue73
 t26:=Tryz.underlying3
 a26:=Tryz.isAgg3
 z26:=Tryz.sizeOf3
 v26:=Tryz.zeroValue3
 t27:=Tryz.underlying115
 a27:=Tryz.isAgg115
 z27:=Tryz.sizeOf115
 v27:=Tryz.zeroValue115
 t28:=Tryz.underlying116
 a28:=Tryz.isAgg116
 z28:=Tryz.sizeOf116
 v28:=Tryz.zeroValue116
 t33:=Tryz.underlying118
 a33:=Tryz.isAgg118
 z33:=Tryz.sizeOf118
 v33:=Tryz.zeroValue118}
def Tryz.jE:Go.Shelf.Ren:=⟨fun|6=>66|8=>111|9=>112|11=>158|13=>160|12=>159|23=>224|24=>225|14=>215|15=>216|16=>217|17=>218|18=>219|19=>220|20=>221|21=>222|22=>223|25=>275|26=>276|27=>277|28=>278|29=>279|30=>280|31=>313|n=>n,fun|26=>3|28=>116|24=>31|0=>0|3=>3|37=>230|48=>311|50=>313|4=>4|40=>304|39=>303|45=>171|5=>5|9=>9|51=>353|55=>357|57=>383|58=>384|33=>118|n=>n,fun|n=>n⟩
theorem Tryz.rW:Go.Proofs.SlLaysZI.n6 Tryz.prog Tryz.jE:={
 mixed:=by kernel_rfl
 f6:=⟨Tryz.f66.name,by decide,Tryz.func66.trans (congrArg some (by kernel_rfl))⟩
 f8:=⟨Tryz.f111.name,by decide,Tryz.func111.trans (congrArg some (by kernel_rfl))⟩
 f11:=⟨Tryz.f158.name,by decide,Tryz.func158.trans (congrArg some (by kernel_rfl))⟩
 t0:=Tryz.underlying0
 a0:=Tryz.isAgg0
 z0:=Tryz.sizeOf0
 v0:=Tryz.zeroValue0
 t24:=Tryz.underlying31
 a24:=Tryz.isAgg31
 z24:=Tryz.sizeOf31
 v24:=Tryz.zeroValue31
 t26:=Tryz.underlying3
 a26:=Tryz.isAgg3
 z26:=Tryz.sizeOf3
 v26:=Tryz.zeroValue3
 t28:=Tryz.underlying116
 a28:=Tryz.isAgg116
 z28:=Tryz.sizeOf116
 v28:=Tryz.zeroValue116
 i26:=by kernel_rfl}
def Tryz.oc:Go.Shelf.Ren:=⟨fun|8=>111|11=>158|n=>n,fun|26=>3|28=>116|24=>31|0=>0|33=>118|4=>4|n=>n,fun|n=>n⟩
theorem Tryz.yo:Go.Proofs.SlLaysZI.n8 Tryz.prog Tryz.oc:={
 mixed:=by kernel_rfl
 f8:=⟨Tryz.f111.name,by decide,Tryz.func111.trans (congrArg some (by kernel_rfl))⟩
 f11:=⟨Tryz.f158.name,by decide,Tryz.func158.trans (congrArg some (by kernel_rfl))⟩
 t0:=Tryz.underlying0
 a0:=Tryz.isAgg0
 z0:=Tryz.sizeOf0
 v0:=Tryz.zeroValue0
 t24:=Tryz.underlying31
 a24:=Tryz.isAgg31
 z24:=Tryz.sizeOf31
 v24:=Tryz.zeroValue31
 t26:=Tryz.underlying3
 a26:=Tryz.isAgg3
 z26:=Tryz.sizeOf3
 v26:=Tryz.zeroValue3
 t28:=Tryz.underlying116
 a28:=Tryz.isAgg116
 z28:=Tryz.sizeOf116
 v28:=Tryz.zeroValue116
 i26:=by kernel_rfl}
def Tryz.nI:Go.Shelf.Ren:=⟨fun|5=>112|8=>160|7=>159|19=>224|20=>225|10=>215|11=>216|12=>217|13=>218|14=>219|15=>220|16=>221|17=>222|18=>223|30=>275|31=>276|32=>277|33=>278|34=>279|35=>280|40=>313|n=>n,fun|23=>31|25=>3|3=>3|32=>230|22=>31|0=>0|44=>311|46=>313|4=>4|36=>304|35=>303|41=>171|5=>5|9=>9|53=>353|57=>357|63=>383|64=>384|n=>n,fun|n=>n⟩
theorem Tryz.pN:Go.Proofs.SlLaysM.n5 Tryz.prog Tryz.nI:={
 mixed:=by kernel_rfl
 f5:=⟨Tryz.f112.name,by decide,Tryz.func112.trans (congrArg some (by kernel_rfl))⟩
 f7:=⟨Tryz.f159.name,by decide,Tryz.func159.trans (congrArg some (by kernel_rfl))⟩
 f8:=Tryz.func160.trans (congrArg some (by kernel_rfl))
 f10:=⟨Tryz.f215.name,by decide,Tryz.func215.trans (congrArg some (by kernel_rfl))⟩
 f11:=⟨Tryz.f216.name,by decide,Tryz.func216.trans (congrArg some (by kernel_rfl))⟩
 f12:=⟨Tryz.f217.name,by decide,Tryz.func217.trans (congrArg some (by kernel_rfl))⟩
 f13:=⟨Tryz.f218.name,by decide,Tryz.func218.trans (congrArg some (by kernel_rfl))⟩
 f14:=⟨Tryz.f219.name,by decide,Tryz.func219.trans (congrArg some (by kernel_rfl))⟩
 f15:=⟨Tryz.f220.name,by decide,Tryz.func220.trans (congrArg some (by kernel_rfl))⟩
 f16:=⟨Tryz.f221.name,by decide,Tryz.func221.trans (congrArg some (by kernel_rfl))⟩
 f17:=⟨Tryz.f222.name,by decide,Tryz.func222.trans (congrArg some (by kernel_rfl))⟩
 f18:=⟨Tryz.f223.name,by decide,Tryz.func223.trans (congrArg some (by kernel_rfl))⟩
 f19:=Tryz.func224.trans (congrArg some (by kernel_rfl))
 f20:=Tryz.func225.trans (congrArg some (by kernel_rfl))
 f30:=⟨Tryz.f275.name,by decide,Tryz.func275.trans (congrArg some (by kernel_rfl))⟩
 f31:=Tryz.func276.trans (congrArg some (by kernel_rfl))
 f32:=Tryz.func277.trans (congrArg some (by kernel_rfl))
 f33:=⟨Tryz.f278.name,by decide,Tryz.func278.trans (congrArg some (by kernel_rfl))⟩
 f34:=⟨Tryz.f279.name,by decide,Tryz.func279.trans (congrArg some (by kernel_rfl))⟩
 f35:=⟨Tryz.f280.name,by decide,Tryz.func280.trans (congrArg some (by kernel_rfl))⟩
 f40:=⟨Tryz.f313.name,by decide,Tryz.func313.trans (congrArg some (by kernel_rfl))⟩
 t0:=Tryz.underlying0
 a0:=Tryz.isAgg0
 z0:=Tryz.sizeOf0
 v0:=Tryz.zeroValue0
 t3:=Tryz.underlying3
 a3:=Tryz.isAgg3
 z3:=Tryz.sizeOf3
 v3:=Tryz.zeroValue3
 t4:=Tryz.underlying4
 a4:=Tryz.isAgg4
 z4:=Tryz.sizeOf4
 v4:=Tryz.zeroValue4
 t5:=Tryz.underlying5
 a5:=Tryz.isAgg5
 z5:=Tryz.sizeOf5
 v5:=Tryz.zeroValue5
 t9:=Tryz.underlying9
 a9:=Tryz.isAgg9
 z9:=Tryz.sizeOf9
 v9:=Tryz.zeroValue9
 t22:=Tryz.underlying31
 a22:=Tryz.isAgg31
 z22:=Tryz.sizeOf31
 v22:=Tryz.zeroValue31
 t23:=Tryz.underlying31
 a23:=Tryz.isAgg31
 z23:=Tryz.sizeOf31
 v23:=Tryz.zeroValue31
 t25:=Tryz.underlying3
 a25:=Tryz.isAgg3
 z25:=Tryz.sizeOf3
 v25:=Tryz.zeroValue3
 t32:=Tryz.underlying230
 a32:=Tryz.isAgg230
 z32:=Tryz.sizeOf230
 v32:=Tryz.zeroValue230
 t35:=Tryz.underlying303
 a35:=Tryz.isAgg303
 z35:=Tryz.sizeOf303
 v35:=Tryz.zeroValue303
 t36:=Tryz.underlying304
 a36:=Tryz.isAgg304
 z36:=Tryz.sizeOf304
 v36:=Tryz.zeroValue304
 t41:=Tryz.underlying171
 a41:=Tryz.isAgg171
 z41:=Tryz.sizeOf171
 v41:=Tryz.zeroValue171
 t44:=Tryz.underlying311
 a44:=Tryz.isAgg311
 z44:=Tryz.sizeOf311
 v44:=Tryz.zeroValue311
 t46:=Tryz.underlying313
 a46:=Tryz.isAgg313
 z46:=Tryz.sizeOf313
 v46:=Tryz.zeroValue313
 t53:=Tryz.underlying353
 a53:=Tryz.isAgg353
 z53:=Tryz.sizeOf353
 v53:=Tryz.zeroValue353
 t57:=Tryz.underlying357
 a57:=Tryz.isAgg357
 z57:=Tryz.sizeOf357
 v57:=Tryz.zeroValue357
 t63:=Tryz.underlying383
 a63:=Tryz.isAgg383
 z63:=Tryz.sizeOf383
 v63:=Tryz.zeroValue383
 t64:=Tryz.underlying384
 a64:=Tryz.isAgg384
 z64:=Tryz.sizeOf384
 v64:=Tryz.zeroValue384}
end Go.Proofs
namespace Go.Bu
open Go Go.Vc Go.Proofs Go.RowKit Go.Maps Go.Sort Go.Shelf
variable {U:Hp}
def lp (B:Nat)(h:Hp)(s:Sl)(xs:List Value):Prop:=
 s.len=xs.length/\(xs=[]/\s.a=none\/∃b cs,B<=b/\s.a=some ⟨b,0,none⟩/\bY h b cs/\∀j,j<xs.length->cs[j]?=xs[j]?)
theorem lp.bT {B:Nat}{h h':Hp}{s:Sl}{xs:List Value}{F:Nat->Prop}(hs:lp B h s xs)(e:Ext F h h')(hF:∀b,F b->b<B):lp B h' s xs:=by
 refine⟨hs.1,hs.2.imp id ?_⟩;rintro⟨b,cs,hb,ha,hk,hc⟩;exact⟨b,cs,hb,ha,e.bV hk (λa=>by have:=hF b a;omega),hc⟩
theorem lp.bP {B:Nat}{h h':Hp}{s:Sl}{xs:List Value}(hs:lp B h s xs)(e:aF h h'):lp B h' s xs:=hs.bT e λ_ h=>h.elim
theorem lp.mono {B B':Nat}{h:Hp}{s:Sl}{xs:List Value}(hs:lp B h s xs)(hB:B'<=B):lp B' h s xs:=by
 refine⟨hs.1,hs.2.imp id ?_⟩;rintro⟨b,cs,hb,ha,hk,hc⟩;exact⟨b,cs,O,ha,hk,hc⟩
theorem lp.mf {B:Nat}{h:Hp}{s:Sl}{xs:List Int}(hs:lp B h s (xs.map (Value.int .i64))){i:Nat}{x:Int}(hx:xs[i]?=some x){K:Int->Prop}(hK:K x) :
 Ix s.a s.len (i:Int) 1 λa=>gL .i64 a h K:=by
 have hi:i<xs.length:=(cY.1 hx).1;rcases hs.2 with⟨h0,_⟩|⟨b,cs,_,ha,hb,hc⟩
 .simp at h0;subst h0;simp at hi
 .rw[ha];refine ix O (by rw[hs.1];simp;omega) ?_;rw[add_lit];refine oI ?_ hK;rw[hb.cell];have:=hc i (by simpa using hi);simpa[hx]using this
theorem Uj {w w':World}(h:Below w.heap.size w w'):aF w.heap w'.heap:=⟨h.size,λb a _=>h.block b a⟩
theorem HR {n:Nat}{w w':World}(h:Below n w w'):Xx w w':=⟨h.os,h.tape,h.output,h.size⟩
def wq:Nat:=Tryz.iG.f 10
def JJ:Nat:=Tryz.iG.t 23
theorem Pt (m:Option Nat){R:Fv->Hp->Prop}(hR:R ⟨wq,#[],#[.pointer (some ⟨U.size,0,none⟩)]⟩ (U.push (.cells #[.map m] JJ (0,0)))) :
 QQ.c m U R:=by
 rintro w rfl;refine(callsIn_wide.1 (AnyZI.keys_in Tryz.nv Fence.wide 5 trivial rfl m w)).mono ?_;rintro e a ⟨rfl,rfl⟩;exact⟨⟨rfl,rfl,rfl,sA (by show _<(w.heap.push _).size;simp)⟩,[.func (.func wq) #[] #[.pointer (some ⟨w.heap.size,0,none⟩)]],rfl,⟨wq,#[],#[.pointer (some ⟨w.heap.size,0,none⟩)]⟩,rfl,hR⟩
def jB (x:Int):Prop:=-9223372036854775808<=x/\x<=9223372036854775807
theorem VM {P:Program}{kt:Nat}(hk:P.underlying kt=some (.int .i64)){w:World}{m:Nat}{c:CK}{B:List (Int×c.T)}(h:dM w.heap m .i64 c B)(hb:∀x∈B,jB x.1)(hs:B.length<=1000000) :
 ∃D:DataW Unit,w.ownsMap P kt (λ_=>some (.nil,[])) m B.length D/\(intKeys D).Perm (B.map (·.1))/\Maps.size D=B.length:=by
 obtain⟨d,z,J,u,H,L,A⟩:=h;have j:d.size=B.length:=by simpa using congrArg List.length u
 have r:∀e∈d.toList,∃x:Int,e.key=.int .i64 x/\jB x:=by
  intro e hme;have:(e.key,e.val)∈d.toList.map (λe=>(e.key,e.val)):=yJ hme;rw[u]at this;obtain⟨y,K,e2⟩:=zE.1 this;simp only[Prod.mk.injEq]at e2;exact⟨y.1,e2.1.symm,hb y K⟩
 have wf:∀x:Int,jB x->(Lit.int .i64 x).wf=true:=by
  rintro x ⟨s,N⟩;simp[Lit.wf,IntKind.min,IntKind.max,IntKind.bits,IntKind.signed];omega
 have i:∀e∈d.toList,∃x:Int,e.key=.int .i64 x/\Go.WideElems.rd P kt (λ_=>some ((.nil:DataW Unit),[])) e=some (.int .i64 x,.nil):=by
  intro e hme;obtain⟨x,g,hi⟩:=r e hme;refine⟨x,g,?_⟩;simp[Go.WideElems.rd,keyOf,hk,g,mapKey,wf x hi]
 refine⟨.map ((d.toList.map (Go.WideElems.rg P kt (λ_=>some (.nil,[])))).foldr DataW.insert []),⟨d,z,J,⟨?_,⟨λx g=>A x g,?_,?_⟩,λx g=>?_⟩,O,rfl⟩,?_,?_⟩
 .have:1000000<=maxLen:=by unfold maxLen;omega
  omega
 .exact L.imp (λh=>xr h)
 .have E:d.toList.map (·.key)=(B.map (·.1)).map (Value.int .i64):=by
   have:=congrArg (List.map Prod.fst) u;simpa[lQ,Function.comp_def]using this
  rw[E];exact List.Pairwise.map _ (λa b (C:a≠b) F=>C (by simpa using F)) H
 .obtain⟨M,_,s⟩:=i x g;exact⟨_,s⟩
 .simp only[intKeys];refine((Go.WideShapes.sorted_perm _).map _).trans ?_;rw[lQ];have:d.toList.map ((λp=>Go.intOf p.1)∘Go.WideElems.rg P kt (λ_=>some ((.nil:DataW Unit),[])))=B.map (·.1):=by
   have E:d.toList.map (·.key)=(B.map (·.1)).map (Value.int .i64):=by
    have:=congrArg (List.map Prod.fst) u;simpa[lQ,Function.comp_def]using this
   have G:d.toList.map ((λp=>Go.intOf p.1)∘Go.WideElems.rg P kt (λ_=>some ((.nil:DataW Unit),[])))=(d.toList.map (·.key)).map (λv=>match v with | .int _ x=>x|_=>0):=by
    rw[lQ];apply kh;intro e hme;obtain⟨x,g,s⟩:=i e hme;simp[Function.comp,Go.WideElems.rg,s,g,Go.intOf]
   rw[G,E,lQ]
   conv=>rhs;rw[←vJ (B.map (·.1))]
   rfl
  rw[this]
 .simp only[Maps.size];rw[(Go.WideShapes.sorted_perm _).length_eq];simp[j]
theorem HO {w:World}{B e n:Nat}{v:Value}{xs:List Value}(h:w.ownsRow B e 1 v n xs):∃s:Sl,v=.slice s.a s.len s.cap/\lp B w.heap s xs:=by
 obtain⟨b,h⟩:=h;rcases h with⟨rfl,rfl⟩|⟨g,cap,cur,rfl,hb,hg,_,_,hcs,ht⟩
 .exact⟨⟨none,0,0⟩,rfl,by simp at b;simp[b],.inl ⟨by simpa using b,rfl⟩⟩
 .refine⟨⟨some ⟨g,0,none⟩,n,cap⟩,rfl,by simp at b;simp[b],.inr ⟨g,cur.toList,hb,rfl,⟨e,by simpa using hg⟩,λj d=>?_⟩⟩;rw[←ht,zm,zC O]
theorem TE {w:World}{c m:Nat}{B:List (Int×Bool)}(hc:cell w.heap ⟨c,0,none⟩=some (.map (some m)))(hm:dM w.heap m .i64 .b B)(hb:∀x∈B,jB x.1)(hs:B.length<=1000000)(n:Nat)(hn:1<=n) :
 SeqGives Fence.wide n Tryz.prog wq #[.pointer (some ⟨c,0,none⟩)] encZ (λss=>ss.Perm (B.map (·.1))) B.length w:=by
 obtain⟨D,r,p,a⟩:=VM (P:=Tryz.prog) Tryz.nv.t26 hm hb hs;have d:c<w.heap.size:=by
  unfold cell at hc;split at hc
  .rename_i h;exact(jT.1 h).1
  .cases hc
 have:=AnyZI.keys_gives (ρ:=Tryz.iG) {Tryz.nv with} Fence.wide n trivial rfl hn c m B.length D w d hc r;intro l J W hW hJ hY h0;rw[a]at this;refine(this l J W hW hJ hY h0).mono ?_;rintro e W' ⟨j,ss,g,i⟩;exact⟨j,ss,g.trans p,i⟩
theorem Au (m:Nat):AnyZI.SortsIn Tryz.prog Tryz.jE Fence.wide m:=
 ⟨λbV d cap i W g a b=>callsIn_wide.2 (AnyM.slices_Sort_int Tryz.pN bV d cap i W g a b),
  λp cap W=>callsIn_wide.2 (AnyM.slices_Sort_int_none Tryz.pN p cap W)⟩
theorem T6 {c m:Nat}{B:List (Int×Bool)}(hc:cell U ⟨c,0,none⟩=some (.map (some m)))(hm:dM U m .i64 .b B)(hb:∀x∈B,jB x.1)(hs:B.length<=1000000){R:Sl->Hp->Prop}
 (hR:∀(s:Sl) (σ':Hp) (ss:List Int),aF U σ'->ss.Perm (B.map (·.1))->lp U.size σ' s (ss.map (Value.int .i64))->R s σ') :
 VU.c ⟨wq,#[],#[.pointer (some ⟨c,0,none⟩)]⟩ U R:=by
 rintro w rfl;have d:=TE hc hm hb hs 3 O;have j:B.length<=maxLen:=by unfold maxLen;omega
 have u:=AnyZI.collect_in Tryz.yo Fence.wide 5 trivial trivial rfl O wq #[.pointer (some ⟨c,0,none⟩)] trivial (Tryz.nv.f10.enters rfl) _ _ j O _ d;refine(callsIn_wide.1 u).mono ?_;rintro e z ⟨v,ss,rfl,y,g,r,i⟩;obtain⟨s,rfl,p⟩:=HO g;exact⟨HR i,[.slice s.a s.len s.cap],rfl,s,rfl,hR s _ ss (Uj i) y p⟩
end Go.Bu
namespace Go.Bu
open Go Go.Vc Go.Proofs
variable {U:Hp}{p n sb:Nat}{S:Nat->Bool}{ms:List Nat}
theorem Og {B:Nat}{s:Sl}{xs:List Int}(hs:lp B U s (xs.map (Value.int .i64)))(hl:xs.length<1000000000){m:Int}(hm:m∈xs)(hle:∀y∈xs,m<=y){R:aN}(hR:R m U):W7.c s U R:=by
 refine W7.o ?_;unfold W7.v;have u:s.len=xs.length:=by simpa using hs.1
 have g:0<xs.length:=List.length_pos_of_mem hm;refine Jn.intro (gA O ?_);have z:xs[0]?=some xs[0]:=by simp[g]
 refine hs.mf (i:=0) z ?_;refine UJ (a:=bO) (bb:=bO) (λ(c t:Int) x=>∃k:Nat,t=(k:Int)/\k<=xs.length/\x=U/\c∈xs/\∀(j:Nat) (y:Int),j<k->xs[j]?=some y->c<=y) (λ_ t _=>xs.length-t.toNat)
  ⟨1,rfl,O,rfl,ky _,λj y p d=>?_⟩ ?_
 .have:j=0:=O
  subst this;rw[z]at d;cases d;omega
 rintro c t x ⟨k,rfl,G,rfl,w,b⟩;refine cN (λD=>?_) (λE=>?_)
 .have r:k<xs.length:=O
  have A:xs[k]?=some xs[k]:=by simp[r]
  refine hs.mf A (cT (m:=k+1) O O ⟨⟨k+1,rfl,O,rfl,?_,λj y p d=>?_⟩,O⟩)
  .split
   .exact ky _
   .exact w
  .by_cases e:j=k
   .subst e;rw[A]at d;cases d;split<;>omega
   .have:=b j y O d;split<;>omega
 .have:k=xs.length:=O
  subst this;obtain⟨j,p,e⟩:=vK hm;have C:=b j m p (by simp[p,e]);have F:=hle c w;have:c=m:=Int.le_antisymm C F;rw[this];exact hR
def WW (n:Nat)(S:Nat->Bool)(k:Nat):List Nat:=((List.range n).filter (can S k)).map (· * 2^k)
theorem RW (hb:Bounded S n){k q:Nat}(hc:can S k q=true):q<n:=by
 have:=Qc hb (Z1.1 hc).1;have a:=lb k;have b:q<=q*2^k:=Nat.le_mul_of_pos_right _ a;omega
theorem Kn (hb:Bounded S n){k x:Nat}:x∈WW n S k↔∃q,x=q*2^k/\can S k q=true:=by
 simp only[WW,zE,zK,zg];constructor
 .rintro⟨q,⟨_,hc⟩,rfl⟩;exact⟨q,rfl,hc⟩
 .rintro⟨q,rfl,hc⟩;exact⟨q,⟨RW hb hc,hc⟩,rfl⟩
theorem HN (n:Nat)(S:Nat->Bool)(k:Nat):(WW n S k).Pairwise (· < ·):=by
 unfold WW;refine List.Pairwise.map _ (λa b h=>Nat.mul_lt_mul_of_pos_right h (lb k)) ?_;exact List.Pairwise.sublist uB List.pairwise_lt_range
theorem GR (n:Nat)(S:Nat->Bool)(k:Nat):(WW n S k).length=many n S k:=by
 simp[WW,many,AK]
theorem Oj {k:Nat}{B:List (Int×Bool)}(hK:Keys S k B)(hn:(B.map (·.1)).Nodup)(hb:Bounded S n):(B.map (·.1)).Perm ((WW n S k).map λ(x:Nat)=>(x:Int)):=by
 rw[Cx hn]
 .intro x;simp only[zE];constructor
  .rintro⟨⟨x1,x2⟩,hm,rfl⟩;obtain⟨_,q,i,d⟩:=hK.1 x1 x2 hm;exact⟨_,(Kn hb).2 ⟨q,rfl,d⟩,i.symm⟩
  .rintro⟨y,hy,rfl⟩;obtain⟨q,rfl,d⟩:=(Kn hb).1 hy;exact⟨_,hK.2 q d,rfl⟩
 .refine List.Pairwise.map _ (λa b (g:a<b)=>?_) (HN n S k);intro e;have:a=b:=by exact_mod_cast e
  omega
theorem Ry {k:Nat}{B:List (Int×Bool)}(hK:Keys S k B)(hb:Bounded S n)(hn:n<=1024):∀x∈B,jB x.1:=by
 rintro⟨x,v⟩ hx;obtain⟨_,q,rfl,a⟩:=hK.1 x v hx;have:=Qc hb (Z1.1 a).1;have:=lb k;constructor<;>simp only<;>omega
theorem OG (h:BH U p n S sb ms){k:Nat}(hk:ms.length<=k):WW n S k=[]:=by
 rw[List.eq_nil_iff_forall_not_mem];intro x hx;obtain⟨q,_,a⟩:=(Kn h.jH).1 hx;have:=h.fits (Qc h.jH (Z1.1 a).1);omega
theorem Γ {h:Hp}{v:Value}{e:Nat}:cell (h.push (.cells #[v] e (0,0))) ⟨h.size,0,none⟩=some v:=by simp[cell]
theorem Ga (h:Hp)(o:Obj):aF h (h.push o):=Ext.push _ _ _
def fB (a:Int):Bool:=(List.range 11).any λk=>a==((2^k:Nat):Int)
theorem Od:(List.range 1025).all (λa=>a==0||((a &&& (a-1))==0)==((List.range 11).any λk=>a==2^k))=true:=by decide +kernel
theorem Hu {a:Nat}(h1:1<=a)(h2:a<=1024):((a &&& (a-1))==0)=((List.range 11).any λk=>a==2^k):=by
 have:=kF.1 Od a (zg.2 O);simp only[nS,zU]at this;rcases this with h|h
 .omega
 .exact h
theorem VJ (a:Nat):fB (a:Int)=((List.range 11).any λk=>a==2^k):=by
 unfold fB
 congr 1
 funext k
 rw[kZ];simp only[zU];exact⟨λh=>by exact_mod_cast h,λh=>by exact_mod_cast h⟩
def fO (aG align:Int):Bool:=decide (1<=aG)&&(decide (aG<=1024)&&(decide (1<=align)&&(decide (align<=1024)&&fB align)))
def Z4 (n:Nat)(S:Nat->Bool)(aG align:Nat):Nat->Option Nat
 | 0=>none
 | k+1=>match Z4 n S aG align k with
  | some x=>some x
  | none=>if aG<=2^k/\align<=2^k then(WW n S k).head? else none
def ZD (n:Nat)(S:Nat->Bool)(aG align:Nat):Option Nat:=Z4 n S aG align 11
def jk (n:Nat)(S:Nat->Bool)(aG align:Int):Int:=if fO aG align then(match ZD n S aG.toNat align.toNat with|some _=>0|none=>6)else 1
def jc (n:Nat)(S:Nat->Bool)(aG align:Int):Nat:=if fO aG align then(match ZD n S aG.toNat align.toNat with|some x=>x|none=>0)else 0
def jb (n:Nat)(S:Nat->Bool)(aG align:Int):Nat->Bool:=if fO aG align then(match ZD n S aG.toNat align.toNat with|some x=>take S x (x+aG.toNat)|none=>S)else S
theorem Ti {n:Nat}{S:Nat->Bool}{m a k x:Nat}(h:Z4 n S m a k=some x):∀j,k<=j->Z4 n S m a j=some x:=by
 intro j hj
 induction j with
 | zero=>
  have:k=0:=O
  subst this;exact h
 | succ j ih=>
  by_cases e:k=j+1
  .subst e;exact h
  .simp only[Z4,ih O]
theorem MQ (h:BH U p n S sb ms){m a:Nat}(hn:Z4 n S m a ms.length=none):∀j,ms.length<=j->Z4 n S m a j=none:=by
 intro j hj
 induction j with
 | zero=>
  have:ms.length=0:=O
  rw[this]at hn;exact hn
 | succ j ih=>
  by_cases e:ms.length=j+1
  .rw[←e];exact hn
  .simp only[Z4,ih O,OG h (show ms.length<=j by omega)];simp
theorem OY {k:Nat}(hpos:0<many n S k):∃x rest,WW n S k=x::rest:=by
 rw[←GR]at hpos
 match h:WW n S k with
 | []=>rw[h]at hpos;simp at hpos
 | x::r=>exact⟨x,r,rfl⟩
theorem lI (h:BH U p n S sb ms)(aG align:Int){R:Int->Int->Hp->Prop}
 (hR:∀σ',Ext (· ∈ ms) U σ'->BH σ' p n (jb n S aG align) sb ms->R ((jc n S aG align:Nat):Int) (jk n S aG align) σ'):X1.c (aW p) aG align U R:=by
 refine X1.o ?_;unfold X1.v;have hn2:=h.n2;have hl:=h.len;have L:fO aG align=false->R 0 1 U:=λe=>by
  have:=hR U (Ext.refl _ _);simp only[jb,jc,jk,e,za,jV]at this;exact this h
 have d:¬(1<=aG/\aG<=1024/\1<=align/\align<=1024)->R 0 1 U:=λhn=>L (by
  simp only[fO,←Bool.and_assoc,←wh];rw[zL];rfl;omega)
 refine BQ h (cD rfl (bX.intro ?_));refine cN (λh1=>bX.intro (cF rfl (bX.intro (cF rfl (bX.intro (cF rfl (cF rfl (d O)))))))) λh1=>?_;refine bX.intro (cN (λh2=>bX.intro (cF rfl (bX.intro (cF rfl (cF rfl (d O)))))) λh2=>?_);refine bX.intro (cN (λh3=>bX.intro (cF rfl (cF rfl (d O)))) λh3=>?_);refine bX.intro (cN (λh4=>cF rfl (d O)) λh4=>?_);obtain⟨a,rfl⟩:=zc (show 0<=align by omega);obtain⟨m,rfl⟩:=zc (show 0<=aG by omega);refine cT (m:=a-1) O O ?_;rw[jf O O];have M:((((a &&& (a-1):Nat):Int)) != 0) = !fB (a:Int):=by
  rw[VJ,←Hu O O];simp only[bne,Bool.not_inj_iff];rw[kZ];simp only[zU];omega
 rw[M];cases Q:fB (a:Int)
 .refine cF rfl (L ?_);simp[fO,Q]
 refine cD rfl ?_;have H:fO (m:Int) (a:Int)=true:=by
  simp only[fO,Q,vv,zF,zV];omega
 refine bL (h.rB λcap=>?_);refine Qg (a:=bO) (λt F=>∃k:Nat,t=(k:Int)/\k<=ms.length/\F=U/\Z4 n S m a k=none) (λt _=>ms.length-t.toNat) ⟨0,rfl,O,rfl,rfl⟩ ?_;rintro t F ⟨k,rfl,hk,rfl,r⟩;refine cN (λhlt=>?_) (λhge=>?_)
 .simp only at hlt;obtain⟨mm,Z⟩:=h.get (k:=k) O;refine h.rM Z (mP O (bX.intro ?_));have next:Z4 n S m a (k+1)=none->Ar .i64 ((k:Int)+1) λN=>(∃k:Nat,N=(k:Int)/\k<=ms.length/\F=F/\Z4 n S m a k=none)/\ms.length-N.toNat<ms.length-(k:Int).toNat:=
   λK=>cT (m:=k+1) O O ⟨⟨k+1,rfl,O,rfl,K⟩,O⟩
  refine cN (λG=>?_) (λY=>cD rfl (next ?_))
  .have j:m<=2^k/\a<=2^k:=by
    have:((if(a:Int)>(m:Int)then(a:Int)else(m:Int))<=((2^k:Nat):Int)):=G
    split at this<;>omega
   refine h.lg Z ?_;refine cN (λhpos=>?_) (λhz=>next ?_)
   .have C:0<many n S k:=O
    obtain⟨x,rest,P⟩:=OY C;obtain⟨q,rfl,hc⟩:=(Kn h.jH (k:=k) (x:=x)).1 (by rw[P];simp);have E:ZD n S m a=some (q*2^k):=by
     refine Ti (k:=k+1) ?_ 11 O;simp only[Z4,r,zC j,P,List.head?_cons]
    have hfb:=Qc h.jH (Z1.1 hc).1;obtain⟨B,hB,D⟩:=h.maps k mm Z;have g:=Ff D hB.nodup h.jH;have hle:B.length<=1024:=by
     rw[g];have:=List.countP_le_length (p:=can S k) (l:=List.range n);simp only[many,AI]at *;omega
    refine Pt _ ?_;have e1:=Ga F (.cells #[.map (some mm)] JJ (0,0));refine T6 Γ (e1.fX hB id) (Ry D h.jH h.n2) O λs σ' ss e2 Q W=>?_;have w:=Q.trans (Oj D hB.nodup h.jH);have u:=w.length_eq;simp only[zk]at u;rw[GR,←g]at u;refine Og W O (m:=((q*2^k:Nat):Int)) (w.mem_iff.2 (by rw[P];simp)) (λy hy=>?_) ?_
    .have A:=w.mem_iff.1 hy;have b:=HN n S k;rw[P]at A b;simp only[zR,zW,zE]at A;rcases A with rfl|⟨z,hz,rfl⟩
     .omega
     .have:=(tH.1 b).1 z hz;omega
    .have X:=(h.bP e1).bP e2;refine O5 X O (λy hy1 hy2=>Ur hc (QI.2 O)) λh3 e3 V=>?_;have:=hR h3 ((e1.to.trans e2.to).trans e3);simp only[jb,jc,jk,H,dH,E,zT]at this;exact this V
   .simp only[Z4,r,zC j];have:WW n S k=[]:=vj (by rw[GR];omega);rw[this];rfl
  .have J:¬(m<=2^k/\a<=2^k):=by
    have:¬((if(a:Int)>(m:Int)then(a:Int)else(m:Int))<=((2^k:Nat):Int)):=Y
    split at this<;>omega
   simp only[Z4,r,zB J]
 .simp only at hge;have:k=ms.length:=O
  subst this;have E:ZD n S m a=none:=MQ h r 11 O;have:=hR F (Ext.refl _ _);simp only[jb,jc,jk,H,dH,E,zT]at this;exact this h
end Go.Bu
namespace Go.Ar
open Go.Bu
structure AR where
 n:Nat
 room:Nat
 tb:List cA
 S:Nat->Bool
 st:List Nat
 ow:Nat->Nat
 cG:List (List cH)
 cR:List gQ
 runs:List (Nat×Nat)
def AR.ck (A:AR)(k:Int):Bool:=decide (0<=k)&&decide (k<(A.tb.length:Int))
def UC (A:AR)(r:Nat×Nat):AR:={A with ow:=jO A.ow r.1 r.2 0,st:=UY A.st r.1 r.2 2 [1],S:=Kj A.n A.S r.1 r.2}
def UK (A:AR)(rs:List (Nat×Nat)):AR:=rs.foldl UC A
def dB (sp:Sp)(size:Nat):Option Nat:=((List.range (sp.st.length/size)).map (· * size)).find? λs=>s != 0&&fF sp s size==0
def Hm (st:List Nat)(a m:Nat):List Nat:=((List.range m).map (a + ·)).foldl (λl (h:Nat)=>ji l h) st
def Hk (A:AR)(sp:Sp)(size:Nat):Option (AR×Sp):=match dB sp size with
 | none=>none
 | some s=>some ({A with st:=Hm A.st (s/16) (size/16),S:=Kj A.n A.S s size},gp sp s size)
def KD (m:Nat):Nat:=if m<=16 then 16 else if m<=32 then 32 else 64
def dU (A:AR)(x aG no:Nat):AR:={A with S:=take A.S x (x+aG),st:=UY A.st x aG 1 [2,3],ow:=jO A.ow x aG no}
def dC (A:AR)(sp:Sp)(aG align no:Nat):Option Nat×AR×Sp:=match ZD A.n A.S aG align with
 | some x=>(some x,dU A x aG no,sp)
 | none=>match Hk A sp (KD (max aG align))with
  | none=>(none,A,sp)
  | some (A',sp')=>match ZD A'.n A'.S aG align with
   | some x=>(some x,dU A' x aG no,sp')
   | none=>(none,A',sp')
def QD (A:AR)(k:Int):Int:=if A.ck k then(match A.cR[k.toNat]? with
 | some t=>if t.bs=[]then 4 else 0
 | none=>5)else 1
def YR (A:AR)(k:Int):List Int:=if QD A k=0 then(match A.cR[k.toNat]? with
 | some t=>t.bs.getLast?.getD []
 | none=>[])else[]
def Z0 (A:AR)(k:Int):AR:=if QD A k=0 then{A with cR:=A.cR.modify k.toNat gQ.rem}else A
def HY (A:AR)(k:Int)(xs:List Int):Int:=if A.ck k then(match A.tb[k.toNat]?,A.cG[k.toNat]? with
 | some c,some ss=>if xs.length=c.batch then(if xs.all (λx=>eD c ss x==some true)then 0 else 8)else 1
 | _,_=>5)else 1
def VR (A:AR)(k:Int)(xs:List Int):Bool:=decide (HY A k xs=0)&&(match A.cR[k.toNat]? with
 | some t=>decide (t.bs.length<A.room)
 | none=>false)
def KH (A:AR)(k:Int)(xs:List Int):AR:=if VR A k xs then{A with cR:=A.cR.modify k.toNat λt=>{t with bs:=t.bs++[xs]}}else A
def Kc (A:AR)(k m:Int):Int:=if A.ck k then(if m<0 then 1 else 0)else 1
def V1 (A:AR)(k m:Int):List Nat×List cH:=match A.tb[k.toNat]?,A.cG[k.toNat]? with
 | some c,some ss=>KJ c m.toNat ss
 | _,_=>([],[])
def YB (A:AR)(k m:Int):List Nat:=if Kc A k m=0 then(V1 A k m).1 else[]
def YV (A:AR)(k m:Int):AR:=if Kc A k m=0 then{A with cG:=A.cG.set k.toNat (V1 A k m).2}else A
def Kv (A:AR)(k:Int)(xs:List Int):Int:=if A.ck k then(match A.tb[k.toNat]?,A.cG[k.toNat]? with
 | some c,some ss=>iI c ss xs
 | _,_=>5)else 1
def ZY (A:AR)(k:Int)(xs:List Int):AR:=if Kv A k xs=0 then(match A.tb[k.toNat]?,A.cG[k.toNat]? with
 | some c,some ss=>UK {A with cG:=A.cG.set k.toNat (cK (xs.foldl (fM c) ss))} ((QW (xs.foldl (fM c) ss)).map λs=>(s,c.aG))
 | _,_=>A)else A
def Vy (A:AR)(sp:Sp)(k:Int):Int:=if A.ck k then(match A.tb[k.toNat]?,A.cG[k.toNat]? with
 | some c,some ss=>(match (dC A sp c.aG 1 (k.toNat+1)).1 with
  | some x=>oh c ss x
  | none=>6)
 | _,_=>5)else 1
def cQ (A:AR)(sp:Sp)(k:Int):AR×Sp:=if A.ck k then(match A.tb[k.toNat]?,A.cG[k.toNat]? with
 | some c,some ss=>(match dC A sp c.aG 1 (k.toNat+1)with
  | (some x,A',sp')=>(if oh c ss x=0 then{A' with cG:=A'.cG.set k.toNat (ir c ss x)}else A',sp')
  | (none,A',sp')=>(A',sp'))
 | _,_=>(A,sp))else(A,sp)
def KR (m a:Int):Bool:=decide (1<=m)&&(decide (m<=64)&&(a==1||(a==2||(a==4||(a==8||a==16)))))
def Q3 (A:AR)(sp:Sp)(m a:Int):Int:=if KR m a then(if(dC A sp m.toNat a.toNat 41).1.isSome then 0 else 6)else 1
def QC (A:AR)(sp:Sp)(m a:Int):Nat:=if KR m a then(dC A sp m.toNat a.toNat 41).1.getD 0 else 0
def cC (A:AR)(sp:Sp)(m a:Int):AR×Sp:=if KR m a then(match dC A sp m.toNat a.toNat 41 with
 | (some x,A',sp')=>({A' with runs:=mset2 A'.runs x m.toNat},sp')
 | (none,A',sp')=>(A',sp'))else(A,sp)
where mset2 (l:List (Nat×Nat)) (x m:Nat):List (Nat×Nat):=if l.any (λr=>r.1==x)then l.map (λr=>if r.1==x then(x,m)else r)else l++[(x,m)]
def qX (A:AR)(x:Int):Option (Nat×Nat):=A.runs.find? λr=>(r.1:Int)==x
def VB (A:AR)(x:Int):Int:=if(qX A x).isSome then 0 else 8
def Kb (A:AR)(x:Int):AR:=match qX A x with
 | some r=>UC {A with runs:=A.runs.filter λq=>!((q.1:Int)==x)} r
 | none=>A
def sO (A:AR)(p:Nat):Option (Nat×Nat):=A.runs.find? λr=>decide (r.1<=p)&&decide (p<r.1+r.2)
def Ht (A:AR)(x:Int):Option (Int×Nat):=if x<0 then none else
 let p:=x.toNat/256
 let no:=if p<1024 then A.ow p else 0
 if no=0 then none else if no=41 then(sO A p).map λr=>(-1,r.1*256)else
 match A.tb[no-1]?,A.cG[no-1]? with
 | some c,some ss=>(rO c ss x).map λa=>(((no-1:Nat):Int),a)
 | _,_=>none
def wL (A:AR)(x:Int):Bool:=match Ht A x with
 | some (k,a)=>if(a:Int)=x then(if k<0 then true else(match A.tb[k.toNat]?,A.cG[k.toNat]? with
  | some c,some ss=>eD c ss x==some true
  | _,_=>false))else false
 | none=>false
def oT (A:AR)(p:Int):Bool:=decide (0<=p)&&decide (A.st.getD p.toNat 0≠0)
def vC (A:AR)(k:Nat):AR:=match A.cR[k]? with
 | some t=>t.out.foldl (λA' xs=>ZY A' k xs) {A with cR:=A.cR.set k t.tick}
 | none=>A
def tv (A:AR):AR:=(List.range A.cR.length).foldl vC A
end Go.Ar
namespace Go.Ar
open Go.Vc (bS cX cO)
inductive Ph where
 | take (k:Nat)
 | cJ (k w:Nat)
 | cL (k w:Nat)
 | grow (k w:Nat)
 | fill
 | eT (m:Nat)
 | find (x:Int)
 | put (k:Nat) (x:Int)
 | back
 | dF (s a:Int)
 | drain
 deriving DecidableEq
structure Th where
 ls:List Li
 bQ:List Bt
 ph:Option Ph
structure Cf where
 aG:Nat
 ig:Nat
 threads:Nat
 dD:Nat
 room:Nat
abbrev Bk:=Int×Int×Int×Int
structure Hw where
 tb:List cA
 cf:Cf
 sp:Sp
 bZ:List AR
 bR:List Th
 live:List (Int×Bk)
def XS (bZ:List AR)(x:Int):Int:=if x<0 then -1 else match bZ.findIdx? (λA=>oT A (x/256))with
 | some i=>(i:Int)
 | none=>-1
def Hw.own (H:Hw)(t:Nat):Nat:=t%H.bZ.length
def Hw.eB (H:Hw)(t:Nat)(f:Th->Th):Hw:={H with bR:=H.bR.modify t f}
def Hw.cE (H:Hw)(k:Nat)(A:AR):Hw:={H with bZ:=H.bZ.set k A}
def V3 (H:Hw)(x size cls:Int):Hw:={H with live:=cX H.live x (x,size,cls,XS H.bZ x)}
def Kr (H:Hw)(t k:Nat)(xs:List Int):Hw:=H.eB t λh=>{h with bQ:=h.bQ++[(k,xs)]}
def j6 (H:Hw)(t:Nat):Option Ph:=match H.bR[t]? with
 | some h=>if h.bQ=[]then none else some .back
 | none=>none
def Z8 (bZ:List AR)(xs:List Int)(a:Nat):List Int:=xs.filter λx=>XS bZ x==(a:Int)
def VQ (H:Hw)(k:Nat)(part:Nat->List Int)(l:List Nat):Hw:=l.foldl (λH a=>match H.bZ[a]? with
 | some A=>if part a=[]then H else H.cE a (ZY A (k:Int) (part a))
 | none=>H) H
def GG (H:Hw)(own k:Nat)(xs:List Int):Hw:=match H.bZ[own]? with
 | some A=>if(Z8 H.bZ xs own).length=xs.length/\VR A (k:Int) xs=true then H.cE own (KH A (k:Int) xs)
  else VQ (if(Z8 H.bZ xs own).length=xs.length then H.cE own (KH A (k:Int) xs)else H) k (Z8 H.bZ xs) (List.range H.bZ.length)
 | none=>H
abbrev uW:=Hw×Option Ph×Int×Int
def l4 (H:Hw)(x:Int):Int:=if 0<=XS H.bZ x then(match H.bZ[(XS H.bZ x).toNat]? with
 | some A=>(match Ht A x with
  | some (k,y)=>if 0<=k/\(y:Int)=x then 9 else 8
  | none=>8)
 | none=>8)else 8
def HA (H:Hw)(t:Nat)(x:Int):uW:=match bS H.live x with
 | none=>(H,none,0,l4 H x)
 | some b=>if b.2.2.1<0 then({H with live:=cO H.live x},some (.dF (x/256) b.2.2.2),0,0)
  else(Kr {H with live:=cO H.live x} t b.2.2.1.toNat [x],some (.put b.2.2.1.toNat x),0,0)
def Hw.jZ (H:Hw)(t:Nat):Th:=H.bR.getD t ⟨[],[],none⟩
def Hw.cls (H:Hw)(k:Nat):cA:=H.tb.getD k ⟨8,1,1⟩
def Hw.eL (H:Hw)(t:Nat):AR:=H.bZ.getD (H.own t) ⟨0,0,[],λ_=>false,[],λ_=>0,[],[],[]⟩
def Th.li (h:Th)(k:Nat):Li:=h.ls.getD k im
def Th.iw (h:Th)(k:Nat)(l:Li):Th:={h with ls:=h.ls.set k l}
def iE (H:Hw)(t k:Nat)(x:Int):Hw:=
 let c:=H.cls k
 let l:=(H.jZ t).li k
 let H1:=H.eB t λh=>h.iw k (dO c x l).2
 let H2:=if(dO c x l).1=[]then H1 else Kr H1 t k (dO c x l).1
 let H3:=H2.eB t λh=>{h with bQ:=h.bQ.drop 1}
 if H.cf.dD<KB H.tb (H3.jZ t).ls then H3.eB t λh=>{h with ls:=KG Vz H.tb h.ls,bQ:=h.bQ++KN Vz H.tb h.ls}else H3
def WH (H:Hw)(t:Nat):Ph->uW
 | .take k=>match KM (H.cls k) ((H.jZ t).li k)with
  | (some x,l)=>(V3 (H.eB t λh=>h.iw k l) x ((H.cls k).size:Int) (k:Int),none,x,0)
  | (none,l)=>(H.eB t λh=>h.iw k l,some (.cJ k (qc (H.cls k) l)),0,0)
 | .cJ k w=>if w=(H.cls k).batch then(if QD (H.eL t) (k:Int)=0 then(Kr (H.cE (H.own t) (Z0 (H.eL t) (k:Int))) t k (YR (H.eL t) (k:Int)),some .fill,0,0)else(H,some (.cL k w),0,0))else(H,some (.cL k w),0,0)
 | .cL k w=>
  let H1:=H.cE (H.own t) (YV (H.eL t) (k:Int) (w:Int))
  if YB (H.eL t) (k:Int) (w:Int)=[]then(H1,some (.grow k w),0,0)else(Kr H1 t k ((YB (H.eL t) (k:Int) (w:Int)).map λ(x:Nat)=>(x:Int)),some .fill,0,0)
 | .grow k w=>
  let r:=cQ (H.eL t) H.sp (k:Int)
  let H1:={H.cE (H.own t) r.1 with sp:=r.2}
  if Vy (H.eL t) H.sp (k:Int)=0 then(H1,some (.cL k w),0,0)else(H1,none,0,Vy (H.eL t) H.sp (k:Int))
 | .fill=>match (H.jZ t).bQ with
  | (k,x::xs)::_=>(V3 (H.eB t λh=>{ls:=h.ls.set k (eM xs.reverse (h.li k)),bQ:=[],ph:=h.ph}) x ((H.cls k).size:Int) (k:Int),none,x,0)
  | _=>(H,none,0,0)
 | .eT m=>
  let r:=cC (H.eL t) H.sp (m:Int) 1
  let H1:={H.cE (H.own t) r.1 with sp:=r.2}
  let x:Int:=((QC (H.eL t) H.sp (m:Int) 1*256:Nat):Int)
  if Q3 (H.eL t) H.sp (m:Int) 1=0 then(V3 H1 x ((m*256:Nat):Int) (-1),none,x,0)else(H1,none,0,Q3 (H.eL t) H.sp (m:Int) 1)
 | .find x=>HA H t x
 | .put k x=>(iE H t k x,j6 (iE H t k x) t,0,0)
 | .back=>match (H.jZ t).bQ with
  | (k,xs)::r=>
   let H1:=GG (H.eB t λh=>{h with bQ:=r}) (H.own t) k xs
   (H1,j6 H1 t,0,0)
  | []=>(H,none,0,0)
 | .dF s a=>(match H.bZ[a.toNat]? with
  | some A=>H.cE a.toNat (Kb A s)
  | none=>H,none,0,0)
 | .drain=>
  let H1:=H.eB t λh=>{h with ls:=KG Z9 H.tb h.ls,bQ:=KN Z9 H.tb h.ls}
  (H1,j6 H1 t,0,0)
end Go.Ar