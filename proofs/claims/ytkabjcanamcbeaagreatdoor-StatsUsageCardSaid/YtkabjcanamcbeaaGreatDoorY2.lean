/- Texts joined. -/
import Derived.Deep.Slices
import Derived.Deep.Fields
import Derived.ChangeSame
import Derived.Lib.SmallJoins
import Derived.Below
import Derived.Test.YtkabjcanamcbeaaGreatDoorProg
import Derived.KernelRfl
import Derived.Shelf.SlIterI.Nil
import Derived.Shelf.SortM.Plain
import Derived.Shelf.SortM.SortNone
import Derived.Ground.GgzProg
import Derived.Ground.SlgmProg
import Derived.Shelf.SlMaps.Clone
import Derived.Ground.SlmcProg
import Derived.Test.YtkabjcanamcbeaaGreatDoorY1
set_option linter.unusedVariables false
set_option linter.unusedSimpArgs false
namespace Go.Vc
open Go
abbrev Rg:=Nat->Prop
def dR (P:Hp->Rg->Prop):Prop:=∀σ σ' (F G:Rg),P σ F->σ.size<=σ'.size->(∀b,b<σ.size->F b->G b/\σ'[b]?=σ[b]?)->P σ' G
def Grow (F:Rg)(σ:Hp):Rg:=λb=>F b\/σ.size<=b
theorem dR.mono {P:Hp->Rg->Prop}(hl:dR P){σ:Hp}{F G:Rg}(h:P σ F)(hs:∀b,b<σ.size->F b->G b):P σ G:=hl σ σ F G h (zD _) λb d a=>⟨hs b d a,rfl⟩
theorem dR.bU {P:Hp->Rg->Prop}(hl:dR P){σ σ':Hp}{F T:Rg}(h:P σ F)(e:Ext T σ σ')(hn:∀b,b<σ.size->F b->¬T b):P σ' F:=
 hl σ σ' F F h e.1 λb d a=>⟨a,e.2 b d (hn b d a)⟩
theorem dR.bK {P:Hp->Rg->Prop}(hl:dR P){σ σ':Hp}{F:Rg}(h:P σ F)(e:bO σ σ'):P σ' F:=hl.bU h e λ_ _ _=>id
def Sep {L:Type}(C:L->Hp->Rg->Prop)(σ:Hp)(F:Rg):Prop:=∃ρ:Nat->L,∀i,C i σ λb=>F b/\ρ b=i
variable {L:Type}{C:L->Hp->Rg->Prop}{σ σ':Hp}{F:Rg}
theorem Sep.loc (hC:∀i,dR (C i)):dR (Sep C):=by
 rintro σ j F G ⟨ρ,h⟩ g e;exact⟨ρ,λi=>hC i _ _ _ _ (h i) g λb d a=>⟨⟨(e b d a.1).1,a.2⟩,(e b d a.1).2⟩⟩
theorem Sep.get (h:Sep C σ F)(i:L):∃G:Rg,(∀b,G b->F b)/\C i σ G:=by
 obtain⟨ρ,h⟩:=h;exact⟨_,λb a=>a.1,h i⟩
open Classical in
theorem Sep.pI (hC:∀i,dR (C i))(h:Sep C σ F)(i j:L)(hij:i≠j):∃G H:Rg,(∀b,G b->F b)/\(∀b,H b->F b)/\(∀b,G b->¬H b)/\C i σ G/\C j σ H/\∀(σ':Hp) (C':L->Hp->Rg->Prop) (G' H':Rg),
 (∀k,k≠i->k≠j->C' k=C k)->Ext (λb=>G b\/H b) σ σ'->(∀b,G' b->(G b\/H b)\/σ.size<=b)->(∀b,H' b->(G b\/H b)\/σ.size<=b)->(∀b,G' b->¬H' b)->C' i σ' G'->C' j σ' H'->(∀k,dR (C' k)) →
 Sep C' σ' λb=>F b/\b<σ.size/\¬(G b\/H b)\/G' b\/H' b:=by
 obtain⟨ρ,h⟩:=h;refine⟨_,_,λb a=>a.1,λb a=>a.1,λb g y=>hij (g.2.symm.trans y.2),h i,h j,λσ' C' G' H' A e B z hd w x u=>⟨λb=>if G' b then i else if H' b then j else ρ b,λk=>?_⟩⟩
 by_cases hki:k=i
 ·subst hki;exact(u _).mono w λb _ a=>⟨.inr (.inl a),zB a⟩
 by_cases hkj:k=j
 ·subst hkj;exact(u _).mono x λb _ a=>⟨.inr (.inr a),by show(if G' b then i else if H' b then k else ρ b)=k;rw[zA λd=>hd b d a,zB a]⟩
 ·rw[A k hki hkj];refine hC k _ _ _ _ (h k) e.1 λb a s=>?_;have r:¬((F b/\ρ b=i)\/F b/\ρ b=j):=by
   rintro(d|d)
   ·exact hki (s.2.symm.trans d.2)
   ·exact hkj (s.2.symm.trans d.2)
  have p:¬G' b:=λd=>by
   rcases B b d with g|g
   ·exact r g
   ·omega
  have m:¬H' b:=λd=>by
   rcases z b d with g|g
   ·exact r g
   ·omega
  exact⟨⟨.inl ⟨s.1,a,r⟩,by show(if G' b then i else if H' b then j else ρ b)=k;rw[zA p,zA m];exact s.2⟩,e.2 b a r⟩
def iF (p:Nat)(cs:List Value):Hp->Rg->Prop:=λσ F=>F p/\bX σ p cs
theorem iF.loc (p:Nat)(cs:List Value):dR (iF p cs):=λσ g F G h d b=>by
 obtain⟨e,a⟩:=h.2;have:=b p h.2.lt h.1;exact⟨this.1,e,this.2.trans a⟩
def jZ (r:Nat)(k:IntKind)(c:CK)(l:List (Int×c.T)):Hp->Rg->Prop:=λσ F=>F r/\dL σ r k c l
theorem jZ.loc (r:Nat)(k:IntKind)(c:CK)(l:List (Int×c.T)):dR (jZ r k c l):=λσ i F G h g e=>by
 have:=e r h.2.lt h.1;obtain⟨d,a,b,rest⟩:=h.2;exact⟨this.1,d,a,this.2.trans b,rest⟩
def yJ:Hp->Rg->Prop:=λ_ _=>True
theorem yJ.loc:dR yJ:=λ_ _ _ _ _ _ _=>trivial
def vQ (s:Sl)(sz:Nat)(xs:List Value):Hp->Rg->Prop:=λσ F=>Own F σ s sz xs
theorem vQ.loc (s:Sl)(sz:Nat)(xs:List Value):dR (vQ s sz xs):=λσ g F G h d a=>by
 refine⟨h.1,h.2.imp id ?_⟩;rintro⟨b,cs,hq,ha,⟨e,he⟩,r⟩;have:=a b (bX.lt ⟨e,he⟩) hq;exact⟨b,cs,this.1,ha,⟨e,this.2.trans he⟩,r⟩
def bR (s:Sl)(sz:Nat)(xs:List Value):Hp->Rg->Prop:=λh F=>xs.length=s.len*sz/\(s.len=0/\s.cap=0\/∃b cs,F b/\s.a=some ⟨b,0,none⟩/\bX h b cs/\s.len<=s.cap/\cs.length=s.cap*sz/\cs.take xs.length=xs)
theorem bR.loc (s:Sl)(sz:Nat)(xs:List Value):dR (bR s sz xs):=λσ g F G h d a=>by
 refine⟨h.1,h.2.imp id ?_⟩;rintro⟨b,cs,hq,ha,⟨e,he⟩,r⟩;have:=a b (bX.lt ⟨e,he⟩) hq;exact⟨b,cs,this.1,ha,⟨e,this.2.trans he⟩,r⟩
theorem _root_.aI{s n xs}:dR (bR s n xs):=bR.loc _ _ _
theorem bR.nil (h:Hp)(F:Rg)(sz:Nat)(a:Option Addr):bR ⟨a,0,0⟩ sz [] h F:=⟨by simp,.inl ⟨rfl,rfl⟩⟩
theorem bR.rd {h:Hp}{F:Rg}{s:Sl}{sz:Nat}{xs:List Value}(ho:bR s sz xs h F):Rd h s.a xs:=by
 rcases ho.2 with⟨hl,_⟩|⟨b,cs,_,ha,hb,_,_,ht⟩
 ·have:=ho.1;rw[hl]at this;simp at this;subst this;cases s.a<;>simp[Rd]
 ·rw[ha];intro j v hv;rw[add_lit,hb.cell,zG];rw[←ht,zX]at hv;split at hv
  ·exact hv
  ·cases hv
theorem bR.app {F:Rg}{h:Hp}{s x:Sl}{sz bytes e:Nat}{zs xs ys:List Value}{K:Sl->Hp->Prop}(ho:bR s sz xs h F)(hz:zs.length=sz)
 (hy:ys.length=x.len*sz) (hr:Rd h x.a ys) (h1:∀v∈ys,dN v=true) (hb:(s.len+x.len)*bytes<=2^46) (hc:s.len+x.len<=2^62)
 (hx:0<x.len) (hK:∀s' h',s'.len=s.len+x.len->Ext F h h'->bR s' sz (xs++ys) h' (Grow F h)->K s' h'):App s sz bytes e zs x h K:=by
 refine⟨xs,ys,ho.1,hy,ho.rd,hr,h1,hb,hc,λg=>?_,λp c m=>?_⟩
 ·rcases ho.2 with⟨hl,hcap⟩|⟨b,cs,hQ,ha,hk,hle,hcl,ht⟩
  ·omega
  ·rw[ha];simp only;rw[add_lit];have r:(s.len+x.len)*sz<=s.cap*sz:=lN _ g;rw[zl]at r;have d:=ho.1;refine V7 hk O λh' i j=>hK _ h' rfl (Ext.eR i hQ) ⟨?_,.inr ⟨b,_,.inl hQ,rfl,j,g,?_,?_⟩⟩
   ·simp[d,hy,zl]
   ·simp;omega
   ·rw[zK,d];rw[zG,zt,←d];rw[ht,qb aA,mV aA]
 ·refine hK _ _ rfl (Ext.push _ _ _) ⟨by simp[ho.1,hy,zl],.inr ⟨h.size,xs++ys++(List.replicate (c-(s.len+x.len)) zs).flatten,.inr (zD _),rfl,⟨e,by simp⟩,m,?_,?_⟩⟩
  ·simp only[zK,vA,sM,vJ,ho.1,hy,hz,←zl]
   congr 1;omega
  ·rw[qb aA,mV aA]
theorem bR.st {F:Rg}{h:Hp}{s:Sl}{sz:Nat}{xs:List Value}(ho:bR s sz xs h F){j:Nat}(hj:j<xs.length){v:Value}{K:aP}{a:Addr}(ha:∀b,s.a=some ⟨b,0,none⟩->a=⟨b,j,none⟩)
 (hK:∀h',Ext F h h'->bR s sz (xs.set j v) h' F->K h'):dG a v h K:=by
 rcases ho.2 with⟨hl,_⟩|⟨b,cs,hq,hsa,hb,hle,hcl,ht⟩
 ·have:=ho.1;rw[hl]at this;simp at this;subst this;simp at hj
 ·rw[ha b hsa];have d:j<cs.length:=by
   have:(cs.take xs.length).length=xs.length:=by rw[ht]
   rw[zO]at this;omega
  refine⟨by rw[hb.cell,cM d];rfl,hb.oI,hK _ (Ext.kx (F:=F) hq) ⟨by simp[ho.1],.inr ⟨b,_,hq,hsa,hb.set v,hle,by simp[hcl],?_⟩⟩⟩;rw[oP,List.take_set,ht]
def cR (s:Sl)(sz:Nat)(xs:List Value):Hp->Rg->Prop:=λσ F=>xs.length=s.len*sz/\(xs=[]\/∃b o cs,F b/\s.a=some ⟨b,o,none⟩/\nq σ b cs/\∀j,j<xs.length->cs[o+j]?=xs[j]?)
theorem cR.loc (s:Sl)(sz:Nat)(xs:List Value):dR (cR s sz xs):=λσ g F G h d a=>by
 refine⟨h.1,h.2.imp id ?_⟩;rintro⟨b,o,cs,hq,ha,⟨e,z,he⟩,r⟩;have:=a b (nq.lt ⟨e,z,he⟩) hq;exact⟨b,o,cs,this.1,ha,⟨e,z,this.2.trans he⟩,r⟩
theorem _root_.aH{s n xs}:dR (cR s n xs):=cR.loc _ _ _
theorem bR.gp {Q:Rg}{h:Hp}{s:Sl}{sz:Nat}{xs:List Value}(ho:bR s sz xs h Q):cR s sz xs h Q:=by
 refine⟨ho.1,?_⟩;rcases ho.2 with⟨hl,_⟩|⟨b,cs,hq,ha,hb,_,_,ht⟩
 ·left;have:=ho.1;rw[hl]at this;simpa using this
 ·refine .inr ⟨b,0,cs,hq,ha,hb.q,λj a=>?_⟩;rw[←ht,zX,zG,zB a]
theorem cR.cell {s:Sl}{sz:Nat}{xs:List Value}(h:cR s sz xs σ F){j:Nat}{v:Value}(hv:xs[j]?=some v):∃b o,s.a=some ⟨b,o,none⟩/\Vc.cell σ ⟨b,o+j,none⟩=some v:=by
 have d:=(cQ.1 hv).1;rcases h.2 with h0|⟨b,o,cs,_,ha,hb,hc⟩
 ·subst h0;simp at d
 ·exact⟨b,o,ha,by rw[hb.cell,hc j d];exact hv⟩
theorem cR.pK {s:Sl}{k:IntKind}{xs:List Int}(h:cR s 1 (xs.map (Value.int k)) σ F){i:Nat}{x:Int}(hx:xs[i]?=some x){K:Int->Prop}(hK:K x):Ix s.a s.len (i:Int) 1 λa=>fJ k a σ K:=by
 have m:=(cQ.1 hx).1;obtain⟨b,o,d,g⟩:=h.cell (j:=i) (v:=.int k x) (by simp[hx]);have e:=h.1;simp at e;rw[d];refine ix O O ?_;rw[add_lit];exact ox (by simpa using g) hK
theorem cR.rd {s:Sl}{sz:Nat}{xs:List Value}(h:cR s sz xs σ F):Rd σ s.a xs:=by
 cases ha:s.a with
 | none=>
  rcases h.2 with h0|⟨b,o,cs,_,d,_⟩
  ·exact h0
  ·rw[ha]at d;cases d
 | some a=>
  intro j v hv;obtain⟨b,o,d,e⟩:=h.cell hv;rw[ha]at d;cases d;rw[add_lit];exact e
end Go.Vc
namespace Go.Vc
open Go Go.ChangeShapes Go.WideShapes Go.Deep Go.RowKit
def Yes (σ:Hp):Bool->Hp->Prop:=λb σ'=>b=true/\bO σ σ'
theorem MR {P:Program}{f:Nat}{args:Array Value}{w:World}(h:We P f args [.one .b] w.heap (Yes w.heap)):Calls P f args w λe w'=>e=.returned (.bool true)/\Below w.heap.size w w':=by
 refine(h w rfl).mono ?_;rintro e w' ⟨a,vs,rfl,g⟩
 match vs,g with
 | [v],g=>
  obtain⟨x,rfl,m,i⟩:=g;have d:x=true:=m;subst d;exact⟨rfl,⟨a.1,a.2.1,a.2.2.1,a.2.2.2,λk j=>i.2 k j id⟩⟩
def gH (h:Hp)(l:Sl)(xs:List (Int×Int×Int)):Prop:=l.len=xs.length/\∀i x y z,xs[i]?=some (x,y,z)->∃b o,l.a=some ⟨b,o,none⟩/\b<h.size ∧
 cell h ⟨b,o+i*3,none⟩=some (.int .i64 x)/\cell h ⟨b,o+i*3+1,none⟩=some (.int .i64 y)/\cell h ⟨b,o+i*3+2,none⟩=some (.int .i64 z)
theorem EI {h:Hp}{a:Addr}{v:Value}(hc:cell h a=some v):a.block<h.size/\a.spot=none:=by
 unfold cell at hc;split at hc
 ·rename_i heq;refine⟨(mF.1 heq).1,?_⟩;cases hs:a.spot with
  | none=>rfl
  | some s=>rw[hs]at hc;simp at hc
 ·cases hc
end Go.Vc
namespace Go.Vc
open Go
theorem dP {k:IntKind}{b o i:Nat}{h:Hp}{x:Int}{K:Int->Prop}(hc:cell h ⟨b,o+i,none⟩=some (.int k x))(hK:K x):fJ k (Addr.add ⟨b,o,none⟩ i) h K:=by
 rw[add_lit];exact ox hc hK
theorem cA {e:Int}{m:Nat}{K:Int->Prop}(he:e=(m:Int))(hm:m<=4611686018427387904)(hK:K (m:Int)):Ar .i64 e K:=by
 rw[he];exact ar O O hK
theorem Cz {k:Nat}(h:k<=62):min ((k:Int).toNat) IntKind.i64.bits=k:=by
 have:IntKind.i64.bits=64:=rfl;rw[this];omega
theorem yG {k:IntKind}{e:Int}{K:Int->Prop}(hK:K (k.wrap e)):Ar k e K:=hK
variable {σ:Hp}{b o i j:Nat}{cs:List Value}
theorem bX.rI (hb:bX σ b cs){k:IntKind}{x:Int}{K:Int->Prop}(hc:cs[o+i]?=some (.int k x))(hK:K x):fJ k (Addr.add ⟨b,o,none⟩ i) σ K:=by
 rw[add_lit];exact ox (hb.cell.trans hc) hK
theorem bX.rB (hb:bX σ b cs){x:Bool}{K:Bool->Prop}(hc:cs[o+i]?=some (.bool x))(hK:K x):ko (Addr.add ⟨b,o,none⟩ i) σ K:=by
 rw[add_lit];exact lI (hb.cell.trans hc) hK
theorem bX.rP (hb:bX σ b cs){x:Option Addr}{K:Option Addr->Prop}(hc:cs[o+i]?=some (.pointer x))(hK:K x):fW (Addr.add ⟨b,o,none⟩ i) σ K:=by
 rw[add_lit];exact uD (hb.cell.trans hc) hK
theorem bX.rM (hb:bX σ b cs){x:Option Nat}{K:Option Nat->Prop}(hc:cs[o+i]?=some (.map x))(hK:K x):mQ (Addr.add ⟨b,o,none⟩ i) σ K:=by
 rw[add_lit];exact Eg (hb.cell.trans hc) hK
theorem bX.rS (hb:bX σ b cs){a:Option Addr}{n c:Nat}{K:Sl->Prop}(hc:cs[o+i]?=some (.slice a n c))(hK:K ⟨a,n,c⟩):jn (Addr.add ⟨b,o,none⟩ i) σ K:=by
 rw[add_lit];exact oh (hb.cell.trans hc) hK
theorem bX.gD (hb:bX σ b cs){k:IntKind}{x:Int}{K:Int->Prop}(hc:cs[o+i+j]?=some (.int k x))(hK:K x):fJ k (Addr.add (Addr.add ⟨b,o,none⟩ i) j) σ K:=by
 rw[add_lit,add_lit];exact ox (hb.cell.trans hc) hK
theorem bX.xl (hb:bX σ b cs){k:IntKind}{x:Int}{K:Int->Prop}(hc:cs[o]?=some (.int k x))(hK:K x):fJ k ⟨b,o,none⟩ σ K:=ox (hb.cell.trans hc) hK
theorem bX.vG (hb:bX σ b cs){x:Option Addr}{K:Option Addr->Prop}(hc:cs[o]?=some (.pointer x))(hK:K x):fW ⟨b,o,none⟩ σ K:=uD (hb.cell.trans hc) hK
theorem bX.xU (hb:bX σ b cs){a:Option Addr}{n c:Nat}{K:Sl->Prop}(hc:cs[o]?=some (.slice a n c))(hK:K ⟨a,n,c⟩):jn ⟨b,o,none⟩ σ K:=oh (hb.cell.trans hc) hK
theorem bX.s1 (hb:bX σ b cs){v:Value}(ho:o+i<cs.length){K:aP}(hK:∀h',QC σ h' b->bX h' b (cs.set (o+i) v)->K h'):dG (Addr.add ⟨b,o,none⟩ i) v σ K:=by
 rw[add_lit];refine⟨?_,hb.oI,hK _ ⟨Vh _ _ _,λc a=>VW a⟩ (hb.set v)⟩;rw[hb.cell,cM ho];rfl
theorem bX.s0 (hb:bX σ b cs){v:Value}(ho:o<cs.length){K:aP}(hK:∀h',QC σ h' b->bX h' b (cs.set o v)->K h'):dG ⟨b,o,none⟩ v σ K:=by
 refine⟨?_,hb.oI,hK _ ⟨Vh _ _ _,λc a=>VW a⟩ (hb.set v)⟩;rw[hb.cell,cM ho];rfl
theorem nw {e:Nat}{K:Addr->Hp->Prop}(hK:∀h',h'.size=σ.size+1->bO σ h'->bX h' σ.size cs->K ⟨σ.size,0,none⟩ h'):Nw (.cells cs.toArray e (0,0)) σ K:=
 hK _ aA (Ext.push _ _ _) (bX.push _ _ _)
theorem tz {K:Addr->Hp->Prop}(hK:∀h',h'.size=σ.size+1->bO σ h'->(∀(k:IntKind) (c:CK),dL h' σ.size k c [])->K ⟨σ.size,0,none⟩ h'):Nw (.map #[] 0) σ K:=
 hK _ aA (Ext.push _ _ _) λk c=>dL.push _ _ _
theorem mk {n bytes e:Nat}{zs:List Value}{K:Sl->Hp->Prop}(h1:bytes*n<=1073741824)(h2:n<=1073741824)
 (hK:∀h',h'.size=σ.size+1->bO σ h'->bX h' σ.size (List.replicate n zs).flatten->K ⟨some ⟨σ.size,0,none⟩,n,n⟩ h'):Mk (n:Int) (n:Int) bytes e zs σ K:=by
 refine⟨O,ql _,?_,O,?_⟩
 ·have:((bytes:Int)*(n:Int))=((bytes*n:Nat):Int):=by simp
  rw[this];omega
 ·simp only[dC];exact nw hK
theorem jc {s:Sl}{sz lo hi mx:Nat}{K:Sl->Prop}(h1:lo<=hi)(h2:hi<=mx)(h3:mx<=s.cap)(hK:K ⟨if mx=lo then s.a else s.a.map (·.add (lo*sz)),hi-lo,mx-lo⟩):eX s sz (lo:Int) (hi:Int) (mx:Int) K:=
 ⟨O,O,O,O,by simpa using hK⟩
theorem j3 (a b:Nat):(((a:Nat):Int)==((b:Nat):Int))=(a==b):=by rw[nL];simp;omega
theorem tx (a b:Nat):(((a:Nat):Int) != ((b:Nat):Int))=(a != b):=by rw[bne,bne,j3]
theorem vo (a:Nat):(((a:Nat):Int)==0)=(a==0):=j3 a 0
theorem CO (a:Nat):(((a:Nat):Int) != 0)=(a != 0):=tx a 0
def ints (l:List Nat):List Value:=l.map λ(x:Nat)=>Value.int .i64 (x:Int)
theorem QH (l:List Nat):(ints l).length=l.length:=by simp[ints]
theorem JF {l:List Nat}{i x:Nat}(h:l[i]?=some x):(ints l)[i]?=some (.int .i64 (x:Int)):=by simp[ints,h]
theorem Vd (l m:List Nat):ints (l++m)=ints l++ints m:=by simp[ints]
theorem cR.oH {s:Sl}{F:Rg}{xs:List Nat}(h:cR s 1 (ints xs) σ F){i x:Nat}(hx:xs[i]?=some x){K:Int->Prop}(hK:K (x:Int)):Ix s.a s.len (i:Int) 1 λa=>fJ .i64 a σ K:=by
 have j:=(cQ.1 hx).1;obtain⟨b,o,d,g⟩:=h.cell (JF hx);have e:=h.1;rw[QH]at e;rw[d];refine ix O O ?_;rw[add_lit];exact ox (by simpa using g) hK
theorem cR.jO {s:Sl}{F:Rg}{xs:List Nat}(h:cR s 1 (ints xs) σ F):s.len=xs.length:=by
 have:=h.1;rw[QH]at this;omega
theorem cR.nil (F:Rg)(a:Option Addr)(c sz:Nat):cR ⟨a,0,c⟩ sz [] σ F:=⟨by simp,.inl rfl⟩
theorem bX.gp {s:Sl}{sz:Nat}{xs:List Value}(hb:bX σ b cs)(ha:s.a=some ⟨b,o,none⟩)(hl:xs.length=s.len*sz)(hc:∀j,j<xs.length->cs[o+j]?=xs[j]?):cR s sz xs σ (· = b):=
 ⟨hl,.inr ⟨b,o,cs,rfl,ha,hb.q,hc⟩⟩
theorem M9 {a xa:Option Addr}{xc sz bytes e:Nat}{zs:List Value}{K:Sl->Hp->Prop}(hK:K ⟨a,0,0⟩ σ):App ⟨a,0,0⟩ sz bytes e zs ⟨xa,0,xc⟩ σ K:=by
 refine⟨[],[],by simp,by simp,by cases a<;>simp[Rd],by cases xa<;>simp[Rd],by simp,by simp,by simp,λ_=>?_,λh=>absurd (zD 0) h⟩
 cases a
 ·exact hK
 ·exact hK
theorem bR.push {F:Rg}{s:Sl}{sz bytes e t:Nat}{zs xs vs:List Value}{K:Sl->Hp->Prop}(ho:bR s sz xs σ F)(hF:∀b,σ.size<=b->F b)(hz:zs.length=sz)(hv:vs.length=sz)(h1:∀v∈vs,dN v=true)
 (hb:bytes<=1000) (hl:s.len<=1000000) (hK:∀s' h',s'.len=s.len+1->Ext F σ h'->bR s' sz (xs++vs) h' F->K s' h') :
 Nw (.cells vs.toArray t (0,0)) σ λn v=>App s sz bytes e zs ⟨some n,1,1⟩ v K:=by
 refine nw λv p m i=>?_;have d:=(bR.loc s sz xs).bK ho m;refine d.app (ys:=vs) hz (by simp[hv]) ?_ h1 ?_ ?_ nA λs' h' g r a=>hK s' h' g (m.to.trans r) ?_
 ·intro j u hu;rw[add_lit,zG,i.cell];exact hu
 ·simp only;have:(s.len+1)*bytes<=1000001*1000:=kL O hb;omega
 ·simp only;omega
 ·exact aI.mono a λb _ w=>by
   rcases w with h|h
   ·exact h
   ·exact hF b O
theorem bR.jO {F:Rg}{s:Sl}{xs:List Nat}(h:bR s 1 (ints xs) σ F):s.len=xs.length:=by
 have:=h.1;rw[QH]at this;omega
theorem G8 {F:Rg}{s:Sl}{sz bytes e:Nat}{zs vs:List Value}{R:Sl->Hp->Prop}(h:cR s sz vs σ F)(hpos:0<sz)(hz:zs.length=sz)(h1:∀v∈vs,dN v=true)(hb:bytes<=1000)(hl:s.len<=1000000)
 (hR:∀s' σ',s'.len=s.len->bO σ σ'->bR s' sz vs σ' (λb=>σ.size<=b)->R s' σ') :
 If s.a.isNone (R ⟨none,0,0⟩ σ) (Nw (.cells #[] e (0,0)) σ λn v=>App ⟨some n,0,0⟩ sz bytes e zs s v λt v1=>R t v1):=by
 have d:=h.1;refine cU (λp=>?_) λp=>?_
 ·have A:vs=[]:=by
   rcases h.2 with g|⟨b,o,cs,_,ha,_⟩
   ·exact g
   ·rw[ha]at p;cases p
  subst A;have g:s.len=0:=by
   have u:s.len*sz=0:=by simpa using d.symm
   rcases vB.1 u with h|h
   ·exact h
   ·omega
  exact hR _ _ (by simp[g]) (Ext.refl _ _) (bR.nil _ _ _ _)
 ·refine nw (cs:=[]) λv x m C=>?_;have w:=(cR.loc s sz vs).bK h m;rcases wk s.len with g|g
  ·obtain⟨a,n,c⟩:=s;simp only at g;subst g;have:vs=[]:=by simpa using d
   subst this;exact M9 (hR _ _ rfl m (bR.nil _ _ _ _))
  ·refine(bR.nil v (λb=>σ.size<=b) sz (some ⟨σ.size,0,none⟩)).app (ys:=vs) hz d w.rd h1 ?_ ?_ g λs' B r y j=>hR s' B (by simpa using r) ?_ ?_
   ·simp only[zG];have:s.len*bytes<=1000000*1000:=kL hl hb;omega
   ·simp only;omega
   ·exact Ext.fresh m y λi z=>z
   ·rw[pU]at j;exact aI.mono j λb _ D=>by
     rcases D with h|h
     ·exact h
     ·omega
def Cut (F:Rg)(σ:Hp):Rg:=λb=>F b/\b<σ.size
theorem dR.cut {P:Hp->Rg->Prop}(hl:dR P){F:Rg}(h:P σ F):P σ (Cut F σ):=hl.mono h λb d a=>⟨a,d⟩
theorem Ext.cut {F:Rg}{σ':Hp}(e:Ext (Cut F σ) σ σ'):Ext F σ σ':=⟨e.1,λb g d=>e.2 b g λa=>d a.1⟩
theorem Ext.sub {F G:Rg}{a b:Hp}(e:Ext F a b)(h:∀i,F i->G i):Ext G a b:=e.mono λi _ d=>h i d
theorem QC.ext {h h':Hp}{r:Nat}(ho:QC h h' r):Ext (· = r) h h':=Ext.eR ho rfl
theorem Ext.iD {F:Rg}{a b c:Hp}(e:Ext F a b)(k:Ext (Grow F a) b c):Ext F a c:=
 ⟨zI e.1 k.1,λi d g=>(k.2 i (vL d e.1) λj=>by rcases j with h|h;exact g h;omega).trans (e.2 i d g)⟩
theorem Ext.fF {F G:Rg}{a b c:Hp}(e:Ext F a b)(k:Ext G b c)(h:∀i,G i->F i\/a.size<=i):Ext F a c:=e.iD (k.sub h)
theorem GF {P:Program}{f:Nat}{first caps:Array Value}{args:List Value}{all:Array Value}{rs:List SK}{R:eP (iJ rs)}(hok:Hh P f=true)(he:first++args.toArray++caps=all)
 (hc:We P f all rs σ R):VN P ⟨f,first,caps⟩ args rs σ R:=⟨hok,by unfold IF;simp only;rw[he];exact hc⟩
theorem QN {h h':Hp}{F:Nat->Prop}(e:Ext F h h'){b o:Nat}(hb:b<h.size)(hF:¬F b):cell h' ⟨b,o,none⟩=cell h ⟨b,o,none⟩:=by
 unfold cell;rw[e.2 b hb hF]
theorem DN {h h':Hp}{l:Sl}{xs:List (Int×Int×Int)}{F:Nat->Prop}(ha:gH h l xs)(e:Ext F h h')(hF:∀b,F b->∀o,l.a≠some ⟨b,o,none⟩):gH h' l xs:=by
 refine⟨ha.1,λi x y z p=>?_⟩;obtain⟨b,o,j,d,u,s,m⟩:=ha.2 i x y z p;have g:¬F b:=λr=>hF b r o j;exact⟨b,o,j,vL d e.1,by rw[QN e d g];exact u,by rw[QN e d g];exact s,by rw[QN e d g];exact m⟩
theorem YN {h h':Hp}{l:Sl}{xs:List (Int×Int×Int)}(ha:gH h l xs)(e:bO h h'):gH h' l xs:=DN ha e λ_ h=>h.elim
theorem UZ {h:Hp}{l:Sl}{xs:List (Int×Int×Int)}(ha:gH h l xs){i:Nat}{x y z:Int}(hx:xs[i]?=some (x,y,z)){K:Int->Int->Int->Prop}(hK:K x y z) :
 Ix l.a l.len (i:Int) 3 λa=>fJ .i64 (a.add 0) h λu=>fJ .i64 (a.add 1) h λv=>fJ .i64 (a.add 2) h λw=>K u v w:=by
 obtain⟨b,o,g,p,j,e,d⟩:=ha.2 i x y z hx;have m:=(cQ.1 hx).1;rw[g];refine ix O (by rw[ha.1];omega) ?_;rw[add_lit];refine dP (by simpa using j) (dP (by simpa using e) (dP (by simpa using d) hK))
end Go.Vc
namespace Go.Proofs
open Go.Vc
abbrev _root_.R1:=@We Tryz.prog
abbrev _root_.R2:=Option Addr
def WV.c (a b c d e f:Int)(g:Sl)(h:Hp)(i:aO):Prop:=R1 7 #[.agg #[.I a,.I b,.I c,.I d,.I e,.I f],.slice g.a g.len g.cap] [.one .b] h i
def Xp.c (a:Hp)(b:aO):Prop:=R1 13 #[] [.one .b] a b
def Qg.c (a:Sl)(b c:Int)(d:Hp)(e:Int->Int->Hp->Prop):Prop:=R1 14 #[.slice a.a a.len a.cap,.I b,.I c] [.I,.I] d e
def WY.c (a:Int)(b:Hp)(c:Sl->Int->Hp->Prop):Prop:=R1 16 #[.I a] [.one .s,.I] b c
def WS.c (a b c:Int)(d:Hp)(e:aN):Prop:=R1 18 #[.agg #[.I a,.I b,.I c]] [.I] d e
def QI.c (a:R2)(b:Hp)(c:Option Addr->Int->Hp->Prop):Prop:=R1 19 #[.pointer a] [.one .p,.I] b c
def Xz.c (a:R2)(b c d:Int)(e:Hp)(f:Int->Int->Hp->Prop):Prop:=R1 20 #[.pointer a,.I b,.I c,.I d] [.I,.I] e f
def Y3.c (a:R2)(b c:Int)(d:Hp)(e:aN):Prop:=R1 23 #[.pointer a,.I b,.I c] [.I] d e
def W6.c (a:R2)(b:Hp)(c:Int->Int->Int->Int->Int->Int->Int->Int->Int->Int->Hp->Prop):Prop:=R1 24 #[.pointer a] [.agg [bN,bN,bN,bN,bN,bN,bN,bN,bN,bN]] b c
def Xe.c (a:R2)(b:Hp)(c:Sl->Hp->Prop):Prop:=R1 25 #[.pointer a] [.one .s] b c
def XI.c (a:Hp)(b:Option Addr->Hp->Prop):Prop:=R1 29 #[] [.one .p] a b
def X1.c (a b c d e f:Int)(g:Sl)(h:Int)(i:Hp)(j:Option Addr->Hp->Prop):Prop:=R1 30 #[.agg #[.I a,.I b,.I c,.I d,.I e,.I f],.slice g.a g.len g.cap,.I h] [.one .p] i j
def Y7.c (a:R2)(b:Hp)(c:Sl->Hp->Prop):Prop:=R1 31 #[.pointer a] [.one .s] b c
def WP.c (a:R2)(b:Hp)(c:aN):Prop:=R1 32 #[.pointer a] [.I] b c
def YX.c (a:R2)(b:Hp)(c:Sl->Hp->Prop):Prop:=R1 33 #[.pointer a] [.one .s] b c
def X5.c (a:Sl)(b:Int)(c:Hp)(d:aO):Prop:=R1 34 #[.slice a.a a.len a.cap,.I b] [.one .b] c d
def Xq.c (a:R2)(b c d e f g h:Int)(i:ByteArray)(j:Hp)(k:aN):Prop:=R1 35 #[.pointer a,.agg #[.I b,.I c,.I d,.I e,.I f,.I g,.I h,.string i]] [.I] j k
def YT.c (a:R2)(b:Hp)(c:Int->Int->Int->Int->Int->Int->Int->Int->Int->Int->Int->Hp->Prop):Prop:=R1 36 #[.pointer a] [.agg [bN,bN,bN,bN,bN,bN,bN,bN,bN,bN,bN]] b c
def X4.c (a b:Sl)(c:Hp)(d:aO):Prop:=R1 39 #[.slice a.a a.len a.cap,.slice b.a b.len b.cap] [.one .b] c d
def ZG.c (a:Sl)(b:Hp)(c:aO):Prop:=R1 40 #[.slice a.a a.len a.cap] [.one .b] b c
def Z1.c (a:Sl)(b c:Int)(d:Hp)(e:Int->Int->Hp->Prop):Prop:=R1 41 #[.slice a.a a.len a.cap,.I b,.I c] [.I,.I] d e
def Ze.c (a b c:Int)(d:Hp)(e:Int->Int->Hp->Prop):Prop:=R1 42 #[.agg #[.I a,.I b,.I c]] [.I,.I] d e
def Qp.c (a b c:Int)(d:Hp)(e:Int->Int->Hp->Prop):Prop:=R1 43 #[.agg #[.I a,.I b,.I c]] [.I,.I] d e
def Xn.c (a b:Int)(c:Hp)(d:Int->Int->Int->Hp->Prop):Prop:=R1 47 #[.I a,.I b] [.agg [bN,bN,bN]] c d
def X8.c (a b:Int)(c:Hp)(d:aN):Prop:=R1 48 #[.I a,.I b] [.I] c d
def QA.c (a:R2)(b:Hp)(c:aO):Prop:=R1 50 #[.pointer a] [.one .b] b c
def Xt.c (a:R2)(b:Hp)(c:aO):Prop:=R1 51 #[.pointer a] [.one .b] b c
def Yh.c (a:R2)(b c d:Int)(e:Hp)(f:Int->Int->Hp->Prop):Prop:=R1 52 #[.pointer a,.I b,.I c,.I d] [.I,.I] e f
def XC.c (a:R2)(b:Int)(c:Hp)(d:aP):Prop:=R1 53 #[.pointer a,.I b] [] c d
def XX.c (a:R2)(b:Int)(c:R2)(d:Hp)(e:aP):Prop:=R1 54 #[.pointer a,.I b,.pointer c] [] d e
def Y9.c (a:R2)(b:Hp)(c:Int->Int->Int->Int->Int->Hp->Prop):Prop:=R1 55 #[.pointer a] [.agg [bN,bN,bN,bN,bN]] b c
def Wbl.c (a:R2)(b:Int)(c:Hp)(d:Int->Int->Hp->Prop):Prop:=R1 56 #[.pointer a,.I b] [.I,.I] c d
def Zr.c (a:R2)(b c:Int)(d:Hp)(e:aN):Prop:=R1 58 #[.pointer a,.I b,.I c] [.I] d e
def Xc.c (a:Sl)(b:Fv)(c:Hp)(d:aN):Prop:=R1 59 #[.slice a.a a.len a.cap,.func (.func b.f) b.first b.captured] [.I] c d
def XK.c (a b c d:Int)(e:Hp)(f:aN):Prop:=R1 60 #[.agg #[.I a,.I b,.I c,.I d]] [.I] e f
def Wu.c (a b c d e f:Int)(g:Hp)(h:Option Addr->Hp->Prop):Prop:=R1 63 #[.agg #[.I a,.I b,.I c,.I d,.I e,.I f]] [.one .p] g h
def WQ.c (a b c d e f:Int)(g:Hp)(h:aO):Prop:=R1 64 #[.agg #[.I a,.I b,.I c,.I d,.I e,.I f]] [.one .b] g h
def WO.c (a:R2)(b:Hp)(c:aO):Prop:=R1 65 #[.pointer a] [.one .b] b c
def VM.c (a:Fv)(b:Hp)(c:Sl->Hp->Prop):Prop:=R1 66 #[.func (.func a.f) a.first a.captured] [.one .s] b c
def ZO.c (a:Option Nat)(b:Hp)(c:Fv->Hp->Prop):Prop:=R1 67 #[.map a] [.one .fn] b c
def Wc.c (a:Sl)(b:Hp)(c:Sl->Hp->Prop):Prop:=R1 68 #[.slice a.a a.len a.cap] [.one .s] b c
def Yr.c (a:Sl)(b c d e f g h:Int)(i:ByteArray)(j:Hp)(k:aN):Prop:=R1 69 #[.slice a.a a.len a.cap,.agg #[.I b,.I c,.I d,.I e,.I f,.I g,.I h,.string i]] [.I] j k
def Y6.c (a:R2)(b:Sl)(c d e f g h i:Int)(j:ByteArray)(k:Hp)(l:Int->Int->Int->Hp->Prop):Prop:=R1 70 #[.pointer a,.slice b.a b.len b.cap,.agg #[.I c,.I d,.I e,.I f,.I g,.I h,.I i,.string j]] [.I,.I,.I] k l
def XA.c (a:R2)(b:Hp)(c:aN):Prop:=R1 71 #[.pointer a] [.I] b c
def Xv.c (a:R2)(b:Hp)(c:aN):Prop:=R1 72 #[.pointer a] [.I] b c
def Xr.c (a:R2)(b:Hp)(c:aN):Prop:=R1 73 #[.pointer a] [.I] b c
def X2.c (a:R2)(b:Hp)(c:Int->Int->Int->Int->Int->Int->Hp->Prop):Prop:=R1 74 #[.pointer a] [.I,.I,.I,.I,.I,.I] b c
def Yl.c (a:R2)(b:Int)(c:Hp)(d:aN):Prop:=R1 75 #[.pointer a,.I b] [.I] c d
def YZ.c (a:R2)(b:Int)(c:Hp)(d:Int->Int->Int->Hp->Prop):Prop:=R1 76 #[.pointer a,.I b] [.I,.I,.I] c d
def Qx.c (a b c:Int)(d:Hp)(e:aO):Prop:=R1 77 #[.agg #[.I a,.I b,.I c]] [.one .b] d e
def Qe.c (a:Int)(b:Hp)(c:aN):Prop:=R1 78 #[.I a] [.I] b c
def Wl.c (a:Sl)(b:Fv)(c:Hp)(d:aN):Prop:=R1 79 #[.slice a.a a.len a.cap,.func (.func b.f) b.first b.captured] [.I] c d
def ZY.c (a b c:Int)(d e:Addr)(f:Hp)(g:aO):Prop:=R1 80 #[.agg #[.I a,.I b,.I c],.pointer (some d),.pointer (some e)] [.one .b] f g
def ZI.c (a b c:Int)(d:Hp)(e:aN):Prop:=R1 81 #[.agg #[.I a,.I b,.I c]] [.I] d e
def X0.c (a:R2)(b c d e f:Int)(g:Hp)(h:Int->Int->Hp->Prop):Prop:=R1 83 #[.pointer a,.I b,.agg #[.I c,.I d,.I e,.I f]] [.I,.I] g h
def Zn.c (a:R2)(b:Hp)(c:Option Addr->Hp->Prop):Prop:=R1 84 #[.pointer a] [.one .p] b c
def WF.c (a:Sl)(b:Hp)(c:Sl->Hp->Prop):Prop:=R1 90 #[.slice a.a a.len a.cap] [.one .s] b c
def Kw.c (a:Sl)(b c d e f:Int)(g:Hp)(h:Option Addr->Int->Hp->Prop):Prop:=R1 92 #[.slice a.a a.len a.cap,.agg #[.I b,.I c,.I d,.I e,.I f]] [.one .p,.I] g h
def Vr.c (a:Fv)(b:Hp)(c:Sl->Hp->Prop):Prop:=R1 93 #[.func (.func a.f) a.first a.captured] [.one .s] b c
def Zl.c (a:R2)(b:Int)(c:Hp)(d:aN):Prop:=R1 96 #[.pointer a,.I b] [.I] c d
def Zi.c (a:R2)(b c:Int)(d:Hp)(e:aN):Prop:=R1 97 #[.pointer a,.I b,.I c] [.I] d e
def Yd.c (a:R2)(b c d e f:Int)(g:Hp)(h:aN):Prop:=R1 98 #[.pointer a,.I b,.agg #[.I c,.I d,.I e,.I f]] [.I] g h
def Zb.c (a:R2)(b:Int)(c:Hp)(d:Bool->Int->Int->Int->Hp->Prop):Prop:=R1 99 #[.pointer a,.I b] [.one .b,.agg [bN,bN],.I] c d
def Yy.c (a:R2)(b:Int)(c:Hp)(d:Int->Int->Hp->Prop):Prop:=R1 100 #[.pointer a,.I b] [.I,.I] c d
def ZA.c (a:R2)(b:Hp)(c:aN):Prop:=R1 101 #[.pointer a] [.I] b c
def ZC.c (a:R2)(b:Hp)(c:aP):Prop:=R1 102 #[.pointer a] [] b c
def Xw.c (a:R2)(b:Hp)(c:aN):Prop:=R1 103 #[.pointer a] [.I] b c
def Xs.c (a:R2)(b:Hp)(c:aO):Prop:=R1 104 #[.pointer a] [.one .b] b c
def Xh.c (a:R2)(b:Hp)(c:aO):Prop:=R1 105 #[.pointer a] [.one .b] b c
def WD.c (a:R2)(b:Hp)(c:aO):Prop:=R1 106 #[.pointer a] [.one .b] b c
def X7.c (a:R2)(b:Hp)(c:Sl->Hp->Prop):Prop:=R1 107 #[.pointer a] [.one .s] b c
def W1.c (a:R2)(b:Hp)(c:Sl->Hp->Prop):Prop:=R1 108 #[.pointer a] [.one .s] b c
def Yz.c (a:R2)(b:Hp)(c:aN):Prop:=R1 109 #[.pointer a] [.I] b c
def Zs.c (a:R2)(b:Hp)(c:aN):Prop:=R1 110 #[.pointer a] [.I] b c
def Wk.c (a:Sl)(b:Fv)(c:Hp)(d:aN):Prop:=R1 111 #[.slice a.a a.len a.cap,.func (.func b.f) b.first b.captured] [.I] c d
def Zh.c (a:R2)(b:Addr)(c:Hp)(d:aO):Prop:=R1 112 #[.pointer a,.pointer (some b)] [.one .b] c d
def Y5.c (a:R2)(b:Int)(c:Hp)(d:aO):Prop:=R1 113 #[.pointer a,.I b] [.one .b] c d
def Zt.c (a:R2)(b:Int)(c:Hp)(d:aN):Prop:=R1 114 #[.pointer a,.I b] [.I] c d
def Yw.c (a:R2)(b:Int)(c:Hp)(d:Int->Int->Hp->Prop):Prop:=R1 115 #[.pointer a,.I b] [.I,.I] c d
def X6.c (a:R2)(b c:Int)(d:Hp)(e:aN):Prop:=R1 116 #[.pointer a,.I b,.I c] [.I] d e
def QB.c (a b c d e:Int)(f:Hp)(g:aO):Prop:=R1 123 #[.agg #[.I a,.I b,.I c,.I d,.I e]] [.one .b] f g
def Q0.c (a:Int)(b:Hp)(c:Option Addr->Int->Hp->Prop):Prop:=R1 124 #[.I a] [.one .p,.I] b c
def Q1.c (a:Sl)(b:R2)(c:Int)(d:Hp)(e:Option Addr->Int->Hp->Prop):Prop:=R1 125 #[.slice a.a a.len a.cap,.pointer b,.I c] [.one .p,.I] d e
def QZ.c (a:Sl)(b:Int)(c:Hp)(d:Option Addr->Int->Hp->Prop):Prop:=R1 126 #[.slice a.a a.len a.cap,.I b] [.one .p,.I] c d
def ZS.c (a:Int)(b:Hp)(c:aN):Prop:=R1 129 #[.int .u64 a] [.I] b c
def YF.c (a:R2)(b c:Int)(d:Hp)(e:aN):Prop:=R1 130 #[.pointer a,.I b,.I c] [.I] d e
def YW.c (a:R2)(b:Int)(c:Hp)(d:aO):Prop:=R1 131 #[.pointer a,.I b] [.one .b] c d
def YA.c (a:R2)(b c d e:Int)(f:Hp)(g:Value->Hp->Prop):Prop:=R1 132 #[.pointer a,.agg #[.I b,.I c,.I d,.I e]] [.one .raw] f g
def Zy.c (a:R2)(b:Int)(c:Value)(d:Hp)(e:Value->Int->Int->Hp->Prop):Prop:=R1 133 #[.pointer a,.I b,c] [.one .raw,.agg [bN,bN]] d e
def Xl.c (a:R2)(b:Int)(c:Hp)(d:Int->Int->Hp->Prop):Prop:=R1 134 #[.pointer a,.I b] [.I,.I] c d
def Ys.c (a:R2)(b:Hp)(c:aN):Prop:=R1 135 #[.pointer a] [.I] b c
def Zc.c (a:R2)(b:Hp)(c:aP):Prop:=R1 136 #[.pointer a] [] b c
def WA.c (a:R2)(b:Hp)(c:aO):Prop:=R1 137 #[.pointer a] [.one .b] b c
def ZF.c (a:R2)(b:Hp)(c:Int->Int->Hp->Prop):Prop:=R1 138 #[.pointer a] [.agg [bN,bN]] b c
def WK.c (a:R2)(b:Hp)(c:aO):Prop:=R1 139 #[.pointer a] [.one .b] b c
def XD.c (a:Sl)(b:Hp)(c:Sl->Hp->Prop):Prop:=R1 140 #[.slice a.a a.len a.cap] [.one .s] b c
def XZ.c (a:R2)(b:Hp)(c:aN):Prop:=R1 141 #[.pointer a] [.I] b c
def XW.c (a:R2)(b:Hp)(c:aO):Prop:=R1 142 #[.pointer a] [.one .b] b c
def X9.c (a:R2)(b:Int)(c:Hp)(d:aN):Prop:=R1 143 #[.pointer a,.I b] [.I] c d
def XP.c (a:R2)(b:Hp)(c:aO):Prop:=R1 144 #[.pointer a] [.one .b] b c
def XR.c (a:R2)(b:Int)(c:Hp)(d:Option Addr->Hp->Prop):Prop:=R1 145 #[.pointer a,.I b] [.one .p] c d
def Yq.c (a:R2)(b:Int)(c:Hp)(d:Int->Int->Hp->Prop):Prop:=R1 146 #[.pointer a,.I b] [.I,.I] c d
def Wj.c (a:Sl)(b c:Bool)(d:Hp)(e:aO):Prop:=R1 147 #[.slice a.a a.len a.cap,.agg #[.bool b,.bool c]] [.one .b] d e
def WU.c (a:R2)(b:Hp)(c:aO):Prop:=R1 149 #[.pointer a] [.one .b] b c
def Qf.c (a:Hp)(b:Option Addr->Hp->Prop):Prop:=R1 150 #[] [.one .p] a b
def YY.c (a:R2)(b c d:Int)(e:Hp)(f:aN):Prop:=R1 152 #[.pointer a,.I b,.I c,.I d] [.I] e f
def QY.c (a:Int)(b:Hp)(c:Option Addr->Int->Hp->Prop):Prop:=R1 154 #[.I a] [.one .p,.I] b c
def Ku.c (a:Int)(b:Hp)(c:Option Addr->Int->Hp->Prop):Prop:=R1 155 #[.I a] [.one .p,.I] b c
def Qd.c (a b c:Int)(d:Hp)(e:Option Addr->Int->Hp->Prop):Prop:=R1 156 #[.agg #[.I a,.I b,.I c]] [.one .p,.I] d e
def ZZ.c (a b:Int)(c:Hp)(d:Option Addr->Int->Hp->Prop):Prop:=R1 157 #[.I a,.I b] [.one .p,.I] c d
def ZE.c (a:Int)(b:Hp)(c:aN):Prop:=R1 168 #[.int .u64 a] [.I] b c
def Zk.c (a:R2)(b c:Int)(d:Hp)(e:aP):Prop:=R1 169 #[.pointer a,.I b,.I c] [] d e
def ZH.c (a:R2)(b:Int)(c:Hp)(d:aN):Prop:=R1 170 #[.pointer a,.I b] [.I] c d
def Yo.c (a:R2)(b:Int)(c:Hp)(d:Int->Int->Hp->Prop):Prop:=R1 171 #[.pointer a,.I b] [.I,.I] c d
def Zd.c (a:R2)(b c d:Int)(e:Hp)(f:Value->Int->Int->Hp->Prop):Prop:=R1 172 #[.pointer a,.I b,.I c,.I d] [.one .raw,.agg [bN,bN]] e f
def Yn.c (a:R2)(b:Int)(c:Hp)(d:Int->Int->Hp->Prop):Prop:=R1 173 #[.pointer a,.I b] [.I,.I] c d
def WB.c (a:R2)(b:Int)(c:Hp)(d:Sl->Int->Hp->Prop):Prop:=R1 174 #[.pointer a,.I b] [.one .s,.I] c d
def YB.c (a:R2)(b c:Int)(d:Sl)(e:Hp)(f:aP):Prop:=R1 175 #[.pointer a,.I b,.I c,.slice d.a d.len d.cap] [] e f
def WE.c (a:R2)(b c:Int)(d:Hp)(e:Sl->Int->Hp->Prop):Prop:=R1 176 #[.pointer a,.I b,.I c] [.one .s,.I] d e
def Yk.c (a:R2)(b:Int)(c:Hp)(d:aN):Prop:=R1 177 #[.pointer a,.I b] [.I] c d
def Yi.c (a:R2)(b:Int)(c:Sl)(d:Hp)(e:aN):Prop:=R1 178 #[.pointer a,.I b,.slice c.a c.len c.cap] [.I] d e
def WT.c (a:R2)(b c:Int)(d:Hp)(e:Int->Int->Hp->Prop):Prop:=R1 179 #[.pointer a,.I b,.I c] [.I,.I] d e
def Zz.c (a:R2)(b c:Int)(d:Hp)(e:Value->Int->Int->Hp->Prop):Prop:=R1 180 #[.pointer a,.I b,.I c] [.one .raw,.agg [bN,bN]] d e
def YQ.c (a:R2)(b c:Int)(d:Hp)(e:Sl->Int->Hp->Prop):Prop:=R1 181 #[.pointer a,.I b,.I c] [.one .s,.I] d e
def Yp.c (a:R2)(b:Hp)(c:aO):Prop:=R1 182 #[.pointer a] [.one .b] b c
def Xa.c (a:R2)(b:Hp)(c:Sl->Hp->Prop):Prop:=R1 183 #[.pointer a] [.one .s] b c
def W4.c (a:R2)(b:Int)(c:Hp)(d:Value->Hp->Prop):Prop:=R1 184 #[.pointer a,.I b] [.one .raw] c d
def Wp.c (a:Sl)(b:Hp)(c:Sl->Hp->Prop):Prop:=R1 185 #[.slice a.a a.len a.cap] [.one .s] b c
def ZB.c (a:R2)(b c:Int)(d:Sl)(e:Hp)(f:aP):Prop:=R1 186 #[.pointer a,.I b,.agg #[.I c,.slice d.a d.len d.cap]] [] e f
def WR.c (a:R2)(b:Int)(c:Hp)(d:aN):Prop:=R1 187 #[.pointer a,.I b] [.I] c d
def XS.c (a:R2)(b:Hp)(c:Sl->Hp->Prop):Prop:=R1 188 #[.pointer a] [.one .s] b c
def Xg.c (a:R2)(b:Sl)(c:Hp)(d:aP):Prop:=R1 189 #[.pointer a,.slice b.a b.len b.cap] [] c d
def WW.c (a:R2)(b:Hp)(c:Sl->Hp->Prop):Prop:=R1 190 #[.pointer a] [.one .s] b c
def Yv.c (a:R2)(b:Int)(c:Hp)(d:Sl->Int->Hp->Prop):Prop:=R1 191 #[.pointer a,.I b] [.one .s,.I] c d
def W8.c (a:R2)(b c:Int)(d:Hp)(e:aN):Prop:=R1 192 #[.pointer a,.I b,.I c] [.I] d e
def XH.c (a:R2)(b c:Int)(d:Hp)(e:aN):Prop:=R1 193 #[.pointer a,.I b,.I c] [.I] d e
def YE.c (a:R2)(b:Hp)(c:Sl->Hp->Prop):Prop:=R1 194 #[.pointer a] [.one .s] b c
def Xi.c (a:R2)(b:Int)(c:Hp)(d:aN):Prop:=R1 195 #[.pointer a,.I b] [.I] c d
def XB.c (a:R2)(b c:Int)(d:Hp)(e:aN):Prop:=R1 196 #[.pointer a,.I b,.I c] [.I] d e
def YC.c (a:R2)(b c:Int)(d:Hp)(e:aN):Prop:=R1 197 #[.pointer a,.I b,.I c] [.I] d e
def Xk.c (a:R2)(b:Hp)(c:Sl->Hp->Prop):Prop:=R1 198 #[.pointer a] [.one .s] b c
def WC.c (a:R2)(b:Int)(c:Sl)(d:Hp)(e:aN):Prop:=R1 199 #[.pointer a,.I b,.slice c.a c.len c.cap] [.I] d e
def Yx.c (a:R2)(b:Hp)(c:aO):Prop:=R1 200 #[.pointer a] [.one .b] b c
def XG.c (a:Sl)(b:Int)(c:Hp)(d:Sl->Hp->Prop):Prop:=R1 201 #[.slice a.a a.len a.cap,.I b] [.one .s] c d
def Yu.c (a:R2)(b:Int)(c:Hp)(d:aN):Prop:=R1 202 #[.pointer a,.I b] [.I] c d
def Wn.c (a:Sl)(b c:Bool)(d:Hp)(e:aN):Prop:=R1 203 #[.slice a.a a.len a.cap,.agg #[.bool b,.bool c]] [.I] d e
def Zo.c (a:R2)(b c:Int)(d:Hp)(e:aP):Prop:=R1 204 #[.pointer a,.I b,.I c] [] d e
def Xx.c (a:R2)(b:Int)(c:Hp)(d:Option Addr->Int->Hp->Prop):Prop:=R1 211 #[.pointer a,.I b] [.one .p,.I] c d
def WX.c (a:R2)(b:Int)(c:Hp)(d:aN):Prop:=R1 212 #[.pointer a,.I b] [.I] c d
def Wz.c (a:R2)(b:Hp)(c:Sl->Int->Hp->Prop):Prop:=R1 213 #[.pointer a] [.one .s,.I] b c
def Xd.c (a:R2)(b:Int)(c:Hp)(d:Sl->Int->Hp->Prop):Prop:=R1 214 #[.pointer a,.I b] [.one .s,.I] c d
def YR.c (a:R2)(b c d:Int)(e:Hp)(f:Int->Int->Hp->Prop):Prop:=R1 215 #[.pointer a,.I b,.I c,.I d] [.I,.I] e f
def Y8.c (a:R2)(b:Int)(c:Hp)(d:aN):Prop:=R1 216 #[.pointer a,.I b] [.I] c d
def W3.c (a:Sl)(b:Hp)(c:aP):Prop:=R1 217 #[.slice a.a a.len a.cap] [] b c
def W0.c (a:R2)(b:Sl)(c:Hp)(d:aN):Prop:=R1 218 #[.pointer a,.slice b.a b.len b.cap] [.I] c d
def Xf.c (a:R2)(b:Int)(c:Hp)(d:Sl->Hp->Prop):Prop:=R1 219 #[.pointer a,.I b] [.one .s] c d
def Xj.c (a:R2)(b:Fv)(c:Hp)(d:Sl->Hp->Prop):Prop:=R1 220 #[.pointer a,.func (.func b.f) b.first b.captured] [.one .s] c d
def Xy.c (a:R2)(b:Int)(c:Hp)(d:Sl->Hp->Prop):Prop:=R1 221 #[.pointer a,.I b] [.one .s] c d
def WJ.c (a:R2)(b:Int)(c:Sl)(d:Hp)(e:Bool->Int->Hp->Prop):Prop:=R1 222 #[.pointer a,.I b,.slice c.a c.len c.cap] [.one .b,.I] d e
def YH.c (a:R2)(b:Int)(c:Hp)(d:Sl->Hp->Prop):Prop:=R1 223 #[.pointer a,.I b] [.one .s] c d
def XV.c (a:R2)(b c:Int)(d:Hp)(e:aN):Prop:=R1 224 #[.pointer a,.I b,.I c] [.I] d e
def XE.c (a:R2)(b c:Int)(d:Hp)(e:aN):Prop:=R1 225 #[.pointer a,.I b,.I c] [.I] d e
def Yf.c (a:R2)(b c:Int)(d:Hp)(e:aN):Prop:=R1 226 #[.pointer a,.I b,.I c] [.I] d e
def Wf.c (a:Sl)(b:Fv)(c:Hp)(d:Sl->Hp->Prop):Prop:=R1 227 #[.slice a.a a.len a.cap,.func (.func b.f) b.first b.captured] [.one .s] c d
def Yb.c (a b:Int)(c:R2)(d:Addr)(e:Hp)(f:aO):Prop:=R1 228 #[.agg #[.I a,.I b,.pointer c],.pointer (some d)] [.one .b] e f
def XO.c (a:R2)(b:Hp)(c:aN):Prop:=R1 229 #[.pointer a] [.I] b c
def ZK.c (a:Sl)(b:Int)(c:Hp)(d:aN):Prop:=R1 230 #[.slice a.a a.len a.cap,.I b] [.I] c d
def Xm.c (a:R2)(b:Int)(c:Hp)(d:Sl->Hp->Prop):Prop:=R1 231 #[.pointer a,.I b] [.one .s] c d
def WN.c (a:Sl)(b:Fv)(c:Hp)(d:aP):Prop:=R1 232 #[.slice a.a a.len a.cap,.func (.func b.f) b.first b.captured] [] c d
def XM.c (a b:Int)(c:Addr)(d:Hp)(e:aN):Prop:=R1 233 #[.I a,.I b,.pointer (some c)] [.I] d e
def Qy.c (a:Sl)(b:Hp)(c:aN):Prop:=R1 234 #[.slice a.a a.len a.cap] [.I] b c
def Xu.c (a:R2)(b c d:Int)(e:Sl)(f:Hp)(g:aN):Prop:=R1 235 #[.pointer a,.I b,.I c,.I d,.slice e.a e.len e.cap] [.I] f g
def XQ.c (a:R2)(b c:Int)(d e:Bool)(f:Hp)(g:aN):Prop:=R1 236 #[.pointer a,.I b,.I c,.agg #[.bool d,.bool e]] [.I] f g
def Ya.c (a:R2)(b:Int)(c:Hp)(d:Sl->Hp->Prop):Prop:=R1 237 #[.pointer a,.I b] [.one .s] c d
def XT.c (a:R2)(b:Int)(c:Hp)(d:Sl->Int->Hp->Prop):Prop:=R1 238 #[.pointer a,.I b] [.one .s,.I] c d
def Q2.c (a:Sl)(b:Hp)(c:aO):Prop:=R1 239 #[.slice a.a a.len a.cap] [.one .b] b c
def Qo.c (a:Sl)(b:Int)(c:Hp)(d:aP):Prop:=R1 240 #[.slice a.a a.len a.cap,.I b] [] c d
def Ym.c (a:R2)(b c:Int)(d:Hp)(e:aN):Prop:=R1 241 #[.pointer a,.I b,.I c] [.I] d e
def XU.c (a:R2)(b:Int)(c:Hp)(d:aO):Prop:=R1 242 #[.pointer a,.I b] [.one .b] c d
def Zq.c (a:R2)(b c:Int)(d:Hp)(e:aP):Prop:=R1 243 #[.pointer a,.I b,.I c] [] d e
def XL.c (a:R2)(b:Fv)(c:Hp)(d:Sl->Hp->Prop):Prop:=R1 244 #[.pointer a,.agg #[.func (.func b.f) b.first b.captured]] [.one .s] c d
def XJ.c (a:R2)(b:Hp)(c:aN):Prop:=R1 245 #[.pointer a] [.I] b c
def Za.c (a:R2)(b:Sl)(c:Hp)(d:Sl->Int->Hp->Prop):Prop:=R1 246 #[.pointer a,.slice b.a b.len b.cap] [.one .s,.I] c d
def Ww.c (a:R2)(b:Hp)(c:Option Addr->Hp->Prop):Prop:=R1 247 #[.pointer a] [.one .p] b c
def Wy.c (a:R2)(b:Hp)(c:Option Addr->Hp->Prop):Prop:=R1 248 #[.pointer a] [.one .p] b c
def ZD.c (a:R2)(b:Int)(c:Hp)(d:Option Addr->Hp->Prop):Prop:=R1 250 #[.pointer a,.I b] [.one .p] c d
def Y1.c (a:R2)(b:Hp)(c:Int->Bool->Hp->Prop):Prop:=R1 251 #[.pointer a] [.I,.one .b] b c
def XY.c (a:R2)(b c:Int)(d:Hp)(e:Int->Int->Hp->Prop):Prop:=R1 252 #[.pointer a,.I b,.I c] [.I,.I] d e
def Y4.c (a:R2)(b:Int)(c:Hp)(d:aO):Prop:=R1 253 #[.pointer a,.I b] [.one .b] c d
def XN.c (a:R2)(b c:Int)(d:Hp)(e:aN):Prop:=R1 254 #[.pointer a,.I b,.I c] [.I] d e
def Yc.c (a:R2)(b c d:Int)(e:Hp)(f:aN):Prop:=R1 255 #[.pointer a,.I b,.I c,.I d] [.I] e f
def Kv.c (a b c d:Int)(e:Hp)(f:Option Addr->Int->Hp->Prop):Prop:=R1 256 #[.I a,.agg #[.I b,.I c,.I d]] [.one .p,.I] e f
def Wb.c (a:Sl)(b:Int)(c:Fv)(d:Hp)(e:Int->Bool->Hp->Prop):Prop:=R1 257 #[.slice a.a a.len a.cap,.I b,.func (.func c.f) c.first c.captured] [.I,.one .b] d e
def YS.c (a b:Int)(c:R2)(d:Int)(e:Hp)(f:aN):Prop:=R1 258 #[.agg #[.I a,.I b,.pointer c],.I d] [.I] e f
def Wg.c (a:Sl)(b:Int)(c:Sl)(d:Hp)(e:Sl->Hp->Prop):Prop:=R1 259 #[.slice a.a a.len a.cap,.I b,.slice c.a c.len c.cap] [.one .s] d e
def Xo.c (a:Sl)(b:Hp)(c:Sl->Hp->Prop):Prop:=R1 260 #[.slice a.a a.len a.cap] [.one .s] b c
def Z0.c (a:Sl)(b:Fv)(c:Hp)(d:aP):Prop:=R1 261 #[.slice a.a a.len a.cap,.func (.func b.f) b.first b.captured] [] c d
def W9.c (a:R2)(b:Int)(c:Hp)(d:Bool->Int->Hp->Prop):Prop:=R1 263 #[.pointer a,.I b] [.one .b,.I] c d
def Xb.c (a:R2)(b:Sl)(c:Hp)(d:Bool->Int->Hp->Prop):Prop:=R1 264 #[.pointer a,.slice b.a b.len b.cap] [.one .b,.I] c d
def Yg.c (a:R2)(b c:Int)(d:Hp)(e:aP):Prop:=R1 265 #[.pointer a,.I b,.I c] [] d e
def Wi.c (a:Sl)(b:Fv)(c:Hp)(d:aN):Prop:=R1 266 #[.slice a.a a.len a.cap,.func (.func b.f) b.first b.captured] [.I] c d
def WM.c (a:Sl)(b c d:Int)(e:Fv)(f:Hp)(g:aP):Prop:=R1 267 #[.slice a.a a.len a.cap,.I b,.I c,.I d,.func (.func e.f) e.first e.captured] [] f g
def Wx.c (a:Sl)(b:Fv)(c:Hp)(d:aO):Prop:=R1 268 #[.slice a.a a.len a.cap,.func (.func b.f) b.first b.captured] [.one .b] c d
def YG.c (a:Int)(b:Addr)(c:Hp)(d:aO):Prop:=R1 269 #[.I a,.pointer (some b)] [.one .b] c d
def Wo.c (a:Sl)(b:Int)(c:Hp)(d:aO):Prop:=R1 270 #[.slice a.a a.len a.cap,.I b] [.one .b] c d
def YV.c (a:R2)(b c:Int)(d:Hp)(e:Sl->Int->Hp->Prop):Prop:=R1 271 #[.pointer a,.I b,.I c] [.one .s,.I] d e
def YU.c (a:R2)(b c:Int)(d e:Bool)(f:Hp)(g:aP):Prop:=R1 272 #[.pointer a,.I b,.I c,.agg #[.bool d,.bool e]] [] f g
def XF.c (a:R2)(b:Int)(c:Hp)(d:Int->Int->Bool->Hp->Prop):Prop:=R1 273 #[.pointer a,.I b] [.I,.I,.one .b] c d
def WL.c (a:Sl)(b:Hp)(c:Sl->Hp->Prop):Prop:=R1 274 #[.slice a.a a.len a.cap] [.one .s] b c
def ZJ.c (a:R2)(b:Int)(c:Hp)(d:aN):Prop:=R1 275 #[.pointer a,.I b] [.I] c d
def W5.c (a b c d:Int)(e:Hp)(f:aO):Prop:=R1 276 #[.agg #[.I a,.I b],.agg #[.I c,.I d]] [.one .b] e f
def Zx.c (a:R2)(b:Hp)(c:Int->Int->Hp->Prop):Prop:=R1 277 #[.pointer a] [.I,.I] b c
def X3.c (a:Sl)(b:Hp)(c:aN):Prop:=R1 278 #[.slice a.a a.len a.cap] [.I] b c
def Qm.c (a:Option Nat)(b:Hp)(c:Fv->Hp->Prop):Prop:=R1 279 #[.map a] [.one .fn] b c
def Zm.c (a:R2)(b c:Int)(d:Hp)(e:aN):Prop:=R1 280 #[.pointer a,.I b,.I c] [.I] d e
def Ye.c (a:R2)(b:Int)(c:Hp)(d:aN):Prop:=R1 281 #[.pointer a,.I b] [.I] c d
def Km.c (a:Sl)(b:Int)(c:Hp)(d:aP):Prop:=R1 283 #[.slice a.a a.len a.cap,.I b] [] c d
def YD.c (a:R2)(b:Int)(c:Hp)(d:Bool->Int->Hp->Prop):Prop:=R1 285 #[.pointer a,.I b] [.one .b,.I] c d
def Zj.c (a:R2)(b c:Int)(d:Hp)(e:aP):Prop:=R1 286 #[.pointer a,.I b,.I c] [] d e
def Wr.c (a:Sl)(b c:Int)(d:Fv)(e:Hp)(f:aP):Prop:=R1 287 #[.slice a.a a.len a.cap,.I b,.I c,.func (.func d.f) d.first d.captured] [] e f
def WZ.c (a:Sl)(b:Fv)(c:Hp)(d:aN):Prop:=R1 295 #[.slice a.a a.len a.cap,.func (.func b.f) b.first b.captured] [.I] c d
def WG.c (a:Sl)(b:Int)(c:Hp)(d:aN):Prop:=R1 296 #[.slice a.a a.len a.cap,.I b] [.I] c d
def Yj.c (a:R2)(b:Int)(c:Hp)(d:Int->Int->Hp->Prop):Prop:=R1 297 #[.pointer a,.I b] [.I,.I] c d
def Zp.c (a:R2)(b:Int)(c:Sl)(d:Hp)(e:aP):Prop:=R1 298 #[.pointer a,.I b,.slice c.a c.len c.cap] [] d e
def Wh.c (a:Sl)(b:Fv)(c:Hp)(d:aO):Prop:=R1 300 #[.slice a.a a.len a.cap,.func (.func b.f) b.first b.captured] [.one .b] c d
def YM.c (a b:Bool)(c:Hp)(d:aO):Prop:=R1 301 #[.agg #[.bool a,.bool b]] [.one .b] c d
def Wm.c (a:Sl)(b:Fv)(c:Hp)(d:aN):Prop:=R1 314 #[.slice a.a a.len a.cap,.func (.func b.f) b.first b.captured] [.I] c d
set_option maxRecDepth 100000
def Zs.h:Hn:=.q .o1 (.q (.q .o3 .aK) (.q .o1 (.q (.q .o6 (.k (.loop [(3,.I),(14,.I)] (.q .o1 (.q (.c .l .l) (.q (.k (.q .o5 .o7)) .o2)))))) .aL)))
abbrev _root_.aQ(a:Addr)(n:Nat)(h:Hp)(K:Int->Prop):Prop:=fJ .i64 (a.add n) h K
abbrev _root_.aR(a:Addr)(n:Nat)(v:Value)(h:Hp)(K:Hp->Prop):Prop:=dG (a.add n) v h K
abbrev _root_.aX(a:Addr)(n:Nat)(h:Hp)(K:Sl->Prop):Prop:=jn (a.add n) h K
abbrev _root_.aY(a:Addr)(n:Nat)(h:Hp)(K:Option Addr->Prop):Prop:=fW (a.add n) h K
abbrev _root_.aZ(a:Addr)(n:Nat)(h:Hp)(K:Bool->Prop):Prop:=ko (a.add n) h K
abbrev _root_.bA(a:Addr)(n:Nat)(h:Hp)(K:Value->Prop):Prop:=wZ (a.add n) h K
abbrev _root_.bB(a:Addr)(n:Nat)(h:Hp)(K:Option Nat->Prop):Prop:=mQ (a.add n) h K
abbrev _root_.bC(a:Addr)(n:Nat)(h:Hp)(K:ByteArray->Prop):Prop:=vZ (a.add n) h K
abbrev _root_.bD(p:Option Addr)(n:Nat)(h:Hp)(K:Int->Prop):Prop:=bS p λa=>fJ .i64 (a.add n) h K
abbrev _root_.bE(p:Option Addr)(n:Nat)(h:Hp)(K:Sl->Prop):Prop:=bS p λa=>jn (a.add n) h K
abbrev _root_.bF(p:Option Addr)(n:Nat)(h:Hp)(K:Option Addr->Prop):Prop:=bS p λa=>fW (a.add n) h K
abbrev _root_.bG(p:Option Addr)(n:Nat)(h:Hp)(K:Bool->Prop):Prop:=bS p λa=>ko (a.add n) h K
abbrev _root_.bH(p:Option Addr)(n:Nat)(h:Hp)(K:Value->Prop):Prop:=bS p λa=>wZ (a.add n) h K
abbrev _root_.bI(p:Option Addr)(n:Nat)(h:Hp)(K:Option Nat->Prop):Prop:=bS p λa=>mQ (a.add n) h K
abbrev _root_.bJ(p:Option Addr)(n:Nat)(h:Hp)(K:ByteArray->Prop):Prop:=bS p λa=>vZ (a.add n) h K
abbrev _root_.aS(S:Hp->Prop)(a:Addr)(n:Nat)(K:Int->Prop):Prop:=gP S bN (a.add n) K
abbrev _root_.aT(S:Hp->Prop)(a:Addr)(n:Nat)(K:Sl->Prop):Prop:=gP S .s (a.add n) K
abbrev _root_.aU(S:Hp->Prop)(a:Addr)(n:Nat)(K:Option Addr->Prop):Prop:=gP S .p (a.add n) K
abbrev _root_.bL(e:Int)(K:Int->Prop):Prop:=Ar .i64 e K
abbrev _root_.bM(a:Addr)(h:Hp)(K:Int->Prop):Prop:=fJ .i64 a h K
abbrev _root_.aV(c:Array Value)(t:Nat)(h:Hp)(K:Addr->Hp->Prop):Prop:=Nw (.cells c t (0,0)) h K
def Zs.v (a:R2)(b:Hp)(c:aN):Prop:=XW.c a b λd e=>If (!d) (c 0 e) (bE a 1 e λg=>W7 [bN,bN] (λh=>h 0 0 e) λi (j:Int) (k:Int) l=>If (k<((g.len:Nat):Int)) (Ix g.a g.len k 1 λm=>mQ m l λn=>oB .i64 .b n l λo=>Nn k<|bL (o*2^(min k.toNat IntKind.i64.bits)) λp=>bL (j+p) λq=>bL (k+1) λr=>i q r l) (c j l))
theorem Zs.o {a b c}(d:Zs.v a b c):Zs.c a b c:=Wa Tryz.func110 (x:=Zs.h) (R0 d)
def XW.h:Hn:=.q .o1 (.q (.cV (.seq [.op,.op,.op,.dA true 5 (RI.ops 5),.op])) .l)
def XW.v (a:R2)(b:Hp)(c:aO):Prop:=bY (λd e=>c d e) λf=>If (!a.isNone) (bD a 0 b λh=>f (decide (h>0)) b) (f false b)
theorem XW.o {a b c}(d:XW.v a b c):XW.c a b c:=Wa Tryz.func142 (x:=XW.h) (R0 d)
def QY.h:Hn:=.q .o2 (.q (.q (.cV (.seq [.op,.op,.op,.dA false 2 [.op,.op]])) .aJ) (.q .o4 (.q (.q .o1 (.k (.loop [(5,.I)] (.q (.q .o3 (.c .l .l)) (.q (.k (.o 11)) .o3))))) (.q .o3 .l))))
def QY.v (a:Int)(b:Hp)(c:Option Addr->Int->Hp->Prop):Prop:=bY (λd e=>If d (c none 1 e) (Nw (.cells #[.I a,.slice none 0 0] 218 (0,0)) e λf g=>W7 [bN] (λh=>h 1 g) λi (j:Int) k=>If (j<=a) (bS (some f) λl=>jn (l.add 1) k λm=>Nw (.map #[] 0) k λn o=>Nw (.cells #[.map (some n.block)] 219 (0,0)) o λp q=>App m 1 8 219 [.map none] ⟨some p,1,1⟩ q λr s=>bS (some f) λt=>dG (t.add 1) (.slice r.a r.len r.cap) s λu=>Ar .i64 (j*2) λv=>i v u) (c (some f) 0 k))) λw=>If (a<1) (w true b) (w (decide (a>1024)) b)
theorem QY.o {a b c}(d:QY.v a b c):QY.c a b c:=Wa Tryz.func154 (x:=QY.h) (R0 d)
def XB.h:Hn:=.q .o1 (.q (.q .o5 (.q .o2 .aJ)) (.q (.q .o2 (.k (.loop [(8,.I)] (.q (.q .o5 (.c .l .l)) (.q (.k (.q .o4 .aK)) .o3))))) (.q .o4 .aM)))
def XB.v (a:R2)(b c:Int)(d:Hp)(e:aN):Prop:=Ym.c a b c d λf g=>If (f != 0) (e f g) (W7 [bN] (λh=>h b g) λi (j:Int) k=>bL (b+c) λl=>If (j<l) (XU.c a j k λm n=>If (!m) (e 4 n) (bL (j+1) λo=>i o n)) (Zq.c a b c k λp=>e 0 p))
theorem XB.o {a b c d e}(f:XB.v a b c d e):XB.c a b c d e:=Wa Tryz.func196 (x:=XB.h) (R0 f)
def Yf.h:Hn:=.q .o1 (.q (.q .o5 (.q .o2 .aJ)) (.q (.q .o2 (.k (.loop [(8,.I)] (.q (.q .o5 (.c .l .l)) (.q (.k (.q .o3 .aK)) .o3))))) (.q .o4 .aM)))
def Yf.v (a:R2)(b c:Int)(d:Hp)(e:aN):Prop:=Ym.c a b c d λf g=>If (f != 0) (e f g) (W7 [bN] (λh=>h b g) λi (j:Int) k=>bL (b+c) λl=>If (j<l) (XU.c a j k λm n=>If m (e 9 n) (bL (j+1) λo=>i o n)) (Yg.c a b c k λp=>e 0 p))
theorem Yf.o {a b c d e}(f:Yf.v a b c d e):Yf.c a b c d e:=Wa Tryz.func226 (x:=Yf.h) (R0 f)
def Ym.h:Hn:=.q .o1 (.q (.k (.q .o4 (.c .aM (.q (.cV (.seq [.op,.op,.op,.dA false 2 [.op,.op],.op,.dA false 6 (RI.ops 6),.op,.dA false 8 (RI.ops 8),.op])) .aK)))) .aM)
def Ym.v (a:R2)(b c:Int)(d:Hp)(e:aN):Prop:=XW.c a d λf g=>If (!f) (e 5 g) (bY (λh i=>bY (λj k=>bY (λl m=>If l (e 1 m) (e 0 m)) λn=>If j (n true k) (bD a 0 k λp=>bL (p-b) λq=>n (decide (c>q)) k)) λr=>If h (r true i) (bD a 0 i λt=>r (decide (b>t)) i)) λu=>If (b<0) (u true g) (u (decide (c<1)) g))
theorem Ym.o {a b c d e}(f:Ym.v a b c d e):Ym.c a b c d e:=Wa Tryz.func241 (x:=Ym.h) (R0 f)
def XU.h:Hn:=.q .o1 (.q (.q (.cV (.seq [.op,.op,.op,.op,.dA false 2 [.op,.op],.op,.dA false 6 (RI.ops 6)])) .aK) (.q .fV .aL))
def XU.v (a:R2)(b:Int)(c:Hp)(d:aO):Prop:=XW.c a c λe f=>bY (λg h=>bY (λi j=>If i (d false j) (XF.c a b j λk l m n=>d m n)) λo=>If g (o true h) (bD a 0 h λq=>o (decide (b≥q)) h)) λr=>If (!e) (r true f) (r (decide (b<0)) f)
theorem XU.o {a b c d}(e:XU.v a b c d):XU.c a b c d:=Wa Tryz.func242 (x:=XU.h) (R0 e)
def Zq.h:Hn:=.q .o2 (.k (.loop [(6,.I)] (.q (.q .o5 (.c .l .l)) (.k (.q .fV (.q .o9 (.q .o5 (.q .o6 (.q (.q .o4 (.q .o3 (.c .o6 .l))) .o2)))))))))
def Zq.v (a:R2)(b c:Int)(d:Hp)(e:aP):Prop:=W7 [bN] (λf=>f b d) λg (h:Int) i=>bL (b+c) λj=>If (h<j) (XF.c a h i λk l m n=>bE a 1 n λp=>Ix p.a p.len k 1 λq=>mQ q n λr=>mh .i64 .b r l n λs=>Nn k<|bL ((1:Int)*2^(min k.toNat IntKind.i64.bits)) λt=>bL (l+t) λu=>bL (h-l) λv=>Yg.c a l v s λw=>bL (b+c) λx=>If (u>x) (bL (u-x) λy=>Yg.c a x y w λz=>g u z) (g u w)) (e i)
theorem Zq.o {a b c d e}(f:Zq.v a b c d e):Zq.c a b c d e:=Wa Tryz.func243 (x:=Zq.h) (R0 f)
def XY.h:Hn:=.q .o2 (.q (.k (.q .o4 (.c .aL (.q (.cV (.seq [.op,.op,.op,.dA false 2 [.op,.op],.op,.dA false 2 [.op,.op],.op,.dA false 2 [.op,.op],.op,.dA false 5 (RI.ops 5),.op])) .aJ)))) (.q (.q .o6 (.k (.loop [(42,.I)] (.q .o1 (.q (.c .l .l) (.q (.k (.q .o5 (.q (.cV (.seq [.op,.op,.op,.op,.op,.op,.op,.dA true 3 (RI.ops 3)])) (.c (.q .o5 (.q .o4 (.q .o3 .l))) .l)))) .o2)))))) .aL))
def XY.v (a:R2)(b c:Int)(d:Hp)(e:Int->Int->Hp->Prop):Prop:=XW.c a d λf g=>If (!f) (e 0 5 g) (bY (λh i=>bY (λj k=>bY (λl m=>bY (λn o=>If n (e 0 1 o) (bE a 1 o λq=>W7 [bN] (λr=>r 0 o) λs (t:Int) u=>If (t<((q.len:Nat):Int)) (Ix q.a q.len t 1 λv=>mQ v u λw=>Nn t<|bL ((1:Int)*2^(min t.toNat IntKind.i64.bits)) λx=>bY (λy z=>If y (Qm.c w z λaa ab=>Vr.c aa ab λac ad=>X3.c ac ad λae af=>Zq.c a ae b af λag=>e ae 0 ag) (bL (t+1) λah=>s ah z)) λai=>If (x≥(if c>b then c else b)) (oB .i64 .b w u λaj=>ai (decide (aj>0)) u) (ai false u)) (e 0 6 u))) λak=>If l (ak true m) (bL (c-1) λal=>ak ((bits .and .i64 c al) != 0) m)) λam=>If j (am true k) (am (decide (c>1024)) k)) λan=>If h (an true i) (an (decide (c<1)) i)) λao=>If (b<1) (ao true g) (ao (decide (b>1024)) g))
theorem XY.o {a b c d e}(f:XY.v a b c d e):XY.c a b c d e:=Wa Tryz.func252 (x:=XY.h) (R0 f)
def Yg.h:Hn:=.k (.loop [(1,.I),(2,.I)] (.q (.q .o2 (.c .l .l)) (.k (.q .o1 (.q (.k (.loop [(6,.I)] (.q (.q (.cV (.seq [.op,.op,.op,.op,.op,.op,.op,.op,.op,.op,.dA true 5 (RI.ops 5)])) (.c .l .l)) (.k .o3)))) (.q .o4 (.oq 10)))))))
def Yg.v (a:R2)(b c:Int)(d:Hp)(e:aP):Prop:=W7 [bN,bN] (λf=>f b c d) λg (h:Int) (i:Int) j=>If (i>0) (W7 [bN] (λk=>k 0 j) λl (m:Int) n=>bL (m+1) λo=>Nn o <| bL (m+1) λp=>Nn p<|bL ((h.fdiv (2^(min o.toNat IntKind.i64.bits)))*2^(min p.toNat IntKind.i64.bits)) λq=>bY (λr s=>If r (bL (m+1) λt=>l t s) (Zj.c a m h s λu=>Nn m<|bL ((1:Int)*2^(min m.toNat IntKind.i64.bits)) λv=>bL (h+v) λw=>Nn m<|bL ((1:Int)*2^(min m.toNat IntKind.i64.bits)) λx=>bL (i-x) λy=>g w y u)) λz=>If (q==h) (bL (m+1) λaa=>Nn aa<|bL ((1:Int)*2^(min aa.toNat IntKind.i64.bits)) λab=>z (decide (ab<=i)) n) (z false n)) (e j)
theorem Yg.o {a b c d e}(f:Yg.v a b c d e):Yg.c a b c d e:=Wa Tryz.func265 (x:=Yg.h) (R0 f)
def XF.h:Hn:=.q .o3 (.q (.q .o6 (.k (.loop [(15,.I)] (.q .o1 (.q (.c .l .l) (.q (.k (.q .o5 (.q .o6 (.q .o3 (.c (.q .o5 .l) .l))))) .o2)))))) (.q .o3 .l))
def XF.v (a:R2)(b:Int)(c:Hp)(d:Int->Int->Bool->Hp->Prop):Prop:=bE a 1 c λf=>W7 [bN] (λg=>g 0 c) λh (i:Int) j=>If (i<((f.len:Nat):Int)) (Ix f.a f.len i 1 λk=>mQ k j λl=>Nn i <| Nn i<|bL ((b.fdiv (2^(min i.toNat IntKind.i64.bits)))*2^(min i.toNat IntKind.i64.bits)) λm=>Lk .i64 .b l m j λn=>If (n.getD false) (d i m true j) (bL (i+1) λo=>h o j)) (d 0 0 false j)
theorem XF.o {a b c d}(e:XF.v a b c d):XF.c a b c d:=Wa Tryz.func273 (x:=XF.h) (R0 e)
def Zj.h:Hn:=.q (.k (.loop [(1,.I),(2,.I)] (.q (.q (.cV (.quiet [.op,.op,.op,.op,.op,.op,.op,.op,.op,.dA true 12 (RI.ops 12)])) (.c .l .l)) (.k (.q (.cV (.tail 11 (RI.ops 11) [.op])) (.q .o8 .o3)))))) .o9
def Zj.v (a:R2)(b c:Int)(d:Hp)(e:aP):Prop:=W7 [bN,bN] (λf=>f b c d) λg (h:Int) (i:Int) j=>bL (h+1) λk=>bE a 1 j λm=>bY (λn o=>If n (bE a 1 o λq=>Ix q.a q.len h 1 λr=>mQ r o λs=>Nn h<|bL ((1:Int)*2^(min h.toNat IntKind.i64.bits)) λt=>mh .i64 .b s (bits .xor .i64 i t) o λu=>bL (h+1) λv=>Nn v <| bL (h+1) λw=>Nn w<|bL ((i.fdiv (2^(min v.toNat IntKind.i64.bits)))*2^(min w.toNat IntKind.i64.bits)) λx=>bL (h+1) λy=>g y x u) (bE a 1 o λaa=>Ix aa.a aa.len h 1 λab=>mQ ab o λac=>kR .i64 .b ac i true o λad=>e ad)) λae=>If (k<((m.len:Nat):Int)) (bE a 1 j λag=>Ix ag.a ag.len h 1 λah=>mQ ah j λai=>Nn h<|bL ((1:Int)*2^(min h.toNat IntKind.i64.bits)) λaj=>Lk .i64 .b ai (bits .xor .i64 i aj) j λak=>ae (ak.getD false) j) (ae false j)
theorem Zj.o {a b c d e}(f:Zj.v a b c d e):Zj.c a b c d e:=Wa Tryz.func286 (x:=Zj.h) (R0 f)
end Go.Proofs
namespace Go.Proofs
open Go.Vc
set_option maxRecDepth 100000
def Wc.h:Hn:=.q .o1 (.q (.q .o2 .aK) (.q .o4 .l))
def Wc.v (a:Sl)(b:Hp)(c:Sl->Hp->Prop):Prop:=If a.a.isNone (c ⟨none,0,0⟩ b) (aV #[] 31 b λd e=>App ⟨some d,0,0⟩ 3 24 31 [.I 0,.I 0,.I 0] a e λf g=>c f g)
theorem Wc.o {a b c}(d:Wc.v a b c):Wc.c a b c:=Wa Tryz.func68 (x:=Wc.h) (R0 d)
def Wl.h:Hn:=.q .o1 (.q (.q .o3 (.k (.loop [(8,.I)] (.q .o1 (.q (.c .l .l) (.q (.k (.q .o2 (.q .o6 .aJ))) .o2)))))) .aM)
def Wl.v (a:Sl)(b:Fv)(c:Hp)(d:aN):Prop:=W7 [bN] (λe=>e 0 c) λf (g:Int) h=>If (g<((a.len:Nat):Int)) (Ix a.a a.len g 3 λi=>aQ i 0 h λj=>aQ i 1 h λk=>aQ i 2 h λl=>VN Tryz.prog b [.agg #[.I j,.I k,.I l]] [.one .b] h λm n=>If m (d g n) (bL (g+1) λo=>f o n)) (d (-1) h)
theorem Wl.o {a b c d}(e:Wl.v a b c d):Wl.c a b c d:=Wa Tryz.func79 (x:=Wl.h) (R0 e)
def WF.h:Hn:=.q .o1 (.q (.q .o2 .aK) (.q .o4 .l))
def WF.v (a:Sl)(b:Hp)(c:Sl->Hp->Prop):Prop:=If a.a.isNone (c ⟨none,0,0⟩ b) (aV #[] 3 b λd e=>App ⟨some d,0,0⟩ 1 8 3 [.I 0] a e λf g=>c f g)
theorem WF.o {a b c}(d:WF.v a b c):WF.c a b c:=Wa Tryz.func90 (x:=WF.h) (R0 d)
def Wk.h:Hn:=.q .o1 (.q (.q .o3 (.k (.loop [(8,.I)] (.q .o1 (.q (.c .l .l) (.q (.k (.q .o2 (.q .o6 .aJ))) .o2)))))) .aM)
def Wk.v (a:Sl)(b:Fv)(c:Hp)(d:aN):Prop:=W7 [bN] (λe=>e 0 c) λf (g:Int) h=>If (g<((a.len:Nat):Int)) (Ix a.a a.len g 1 λi=>fW i h λj=>VN Tryz.prog b [.pointer j] [.one .b] h λk l=>If k (d g l) (bL (g+1) λm=>f m l)) (d (-1) h)
theorem Wk.o {a b c d}(e:Wk.v a b c d):Wk.c a b c d:=Wa Tryz.func111 (x:=Wk.h) (R0 e)
def ZS.h:Hn:=.q .o1 (.q (.c .l .l) (.q .o3 .l))
def ZS.v (a:Int)(b:Hp)(c:aN):Prop:=ZE.c a b λd e=>c d e
theorem ZS.o {a b c}(d:ZS.v a b c):ZS.c a b c:=Wa Tryz.func129 (x:=ZS.h) (R0 d)
def XD.h:Hn:=.q .o1 (.q .o1 (.q (.q .o3 (.k (.loop [(3,.I),(11,.I)] (.q .o1 (.q (.c .l .l) (.q (.k (.q .o3 (.q .o5 (.q .o2 (.c .o2 .l))))) .o2)))))) (.q .o3 (.q (.q .o3 (.k (.loop [(6,.one .s),(27,.I)] (.q .o1 (.q (.c .l .l) (.q (.k (.q .o3 .o4)) .o2)))))) .aL))))
def XD.v (a:Sl)(b:Hp)(c:Sl->Hp->Prop):Prop:=W7 [bN,bN] (λd=>d 0 0 b) λe (f:Int) (g:Int) h=>If (g<((a.len:Nat):Int)) (Ix a.a a.len g 1 λi=>jn i h λj=>bL (f+((j.len:Nat):Int)) λk=>If (k<0) (False) (bL (g+1) λl=>e k l h)) (XG.c ⟨none,0,0⟩ f h λm n=>W7 [.s,bN] (λo=>o m 0 n) λp (q:Sl) (r:Int) s=>If (r<((a.len:Nat):Int)) (Ix a.a a.len r 1 λt=>jn t s λu=>App q 1 8 3 [.I 0] u s λv w=>bL (r+1) λx=>p v x w) (c q s))
theorem XD.o {a b c}(d:XD.v a b c):XD.c a b c:=Wa Tryz.func140 (x:=XD.h) (R0 d)
def Wj.h:Hn:=.q .o2 (.q .o5 .l)
def Wj.v (a:Sl)(b c:Bool)(d:Hp)(e:aO):Prop:=aV #[.bool b,.bool c] 160 d λf g=>aZ f 0 g λh=>aZ f 1 g λi=>Wn.c a h i g λj k=>e (decide (j≥0)) k
theorem Wj.o {a b c d e}(f:Wj.v a b c d e):Wj.c a b c d e:=Wa Tryz.func147 (x:=Wj.h) (R0 f)
def ZE.h:Hn:=.q .o1 (.jD [(0,.one (.i .u64)),(2,.I)] (.q .o2 (.c (.q .o3 .o1) .l)) (.jD [(0,.one (.i .u64)),(2,.I)] (.q .o2 (.c (.q .o3 .o3) .l)) (.jD [(0,.one (.i .u64)),(2,.I)] (.q .o2 (.c (.q .o3 .o3) .l)) (.q .o7 .l))))
def ZE.v (a:Int)(b:Hp)(c:aN):Prop:=Jn [(.i .u64),bN] (λ(d:Int) (e:Int) f=>Jn [(.i .u64),bN] (λ(g:Int) (h:Int) i=>Jn [(.i .u64),bN] (λ(j:Int) (k:Int) l=>Ar .u8 j λm=>D6 (ByteArray.mk #[0,1,2,2,3,3,3,3,4,4,4,4,4,4,4,4,5,5,5,5,5,5,5,5,5,5,5,5,5,5,5,5,6,6,6,6,6,6,6,6,6,6,6,6,6,6,6,6,6,6,6,6,6,6,6,6,6,6,6,6,6,6,6,6,7,7,7,7,7,7,7,7,7,7,7,7,7,7,7,7,7,7,7,7,7,7,7,7,7,7,7,7,7,7,7,7,7,7,7,7,7,7,7,7,7,7,7,7,7,7,7,7,7,7,7,7,7,7,7,7,7,7,7,7,7,7,7,7,8,8,8,8,8,8,8,8,8,8,8,8,8,8,8,8,8,8,8,8,8,8,8,8,8,8,8,8,8,8,8,8,8,8,8,8,8,8,8,8,8,8,8,8,8,8,8,8,8,8,8,8,8,8,8,8,8,8,8,8,8,8,8,8,8,8,8,8,8,8,8,8,8,8,8,8,8,8,8,8,8,8,8,8,8,8,8,8,8,8,8,8,8,8,8,8,8,8,8,8,8,8,8,8,8,8,8,8,8,8,8,8,8,8,8,8,8,8,8,8,8,8,8,8,8,8,8,8]) m λn=>bL n λo=>bL (k+o) λp=>c p l) λq=>If (g≥256) (Nn (8:Int) <| bL (h+8) λr=>q (g.fdiv (2^(min (8:Int).toNat IntKind.u64.bits))) r i) (q g h i)) λs=>If (d≥65536) (Nn (16:Int) <| bL (e+16) λt=>s (d.fdiv (2^(min (16:Int).toNat IntKind.u64.bits))) t f) (s d e f)) λu=>If (a≥4294967296) (Nn (32:Int) <| u (a.fdiv (2^(min (32:Int).toNat IntKind.u64.bits))) 32 b) (u a 0 b)
theorem ZE.o {a b c}(d:ZE.v a b c):ZE.c a b c:=Wa Tryz.func168 (x:=ZE.h) (R0 d)
def Wp.h:Hn:=.q .o1 (.q (.q .o2 .aK) (.q .o4 .l))
def Wp.v (a:Sl)(b:Hp)(c:Sl->Hp->Prop):Prop:=If a.a.isNone (c ⟨none,0,0⟩ b) (aV #[] 130 b λd e=>App ⟨some d,0,0⟩ 2 32 130 [.I 0,.slice none 0 0] a e λf g=>c f g)
theorem Wp.o {a b c}(d:Wp.v a b c):Wp.c a b c:=Wa Tryz.func185 (x:=Wp.h) (R0 d)
def XG.h:Hn:=.q .o1 (.jD [] (.q .o2 (.c .o2 .l)) (.q (.q .o8 (.q .o2 (.c .fV .l))) .aL))
def XG.v (a:Sl)(b:Int)(c:Hp)(d:Sl->Hp->Prop):Prop:=Jn [] (λe=>bL (((a.cap:Nat):Int)-((a.len:Nat):Int)) λf=>bL (b-f) λg=>If (g>0) (eX a 1 0 ((a.cap:Nat):Int) (a.cap:Nat) λh=>qZ h 1 8 3 [.I 0] g e λi j=>eX i 1 0 ((a.len:Nat):Int) (i.cap:Nat) λk=>d k j) (d a e)) λl=>If (b<0) (False) (l c)
theorem XG.o {a b c d}(e:XG.v a b c d):XG.c a b c d:=Wa Tryz.func201 (x:=XG.h) (R0 e)
def Wn.h:Hn:=.q .o2 (.q (.q .o3 (.k (.loop [(8,.I)] (.q .o1 (.q (.c .l .l) (.q (.k (.q .o2 (.q (.oq 6) .aJ))) .o2)))))) .aM)
def Wn.v (a:Sl)(b c:Bool)(d:Hp)(e:aN):Prop:=aV #[.bool b,.bool c] 160 d λf g=>W7 [bN] (λh=>h 0 g) λi (j:Int) k=>If (j<((a.len:Nat):Int)) (aZ f 0 k λl=>aZ f 1 k λm=>Ix a.a a.len j 2 λn=>aZ n 0 k λo=>aZ n 1 k λp=>If ((l==o)&&((m==p)&&true)) (e j k) (bL (j+1) λq=>i q k)) (e (-1) k)
theorem Wn.o {a b c d e}(f:Wn.v a b c d e):Wn.c a b c d e:=Wa Tryz.func203 (x:=Wn.h) (R0 f)
def W3.h:Hn:=.q .o5 (.k (.loop [(2,.I),(3,.I)] (.q (.q .o3 (.c .l .l)) (.q (.k (.cV (.held true [13,15] (.tk [0,1,2,3,4,5,6,7,8,9,10,11,12] (.all [(13,.take 14 (.all [(15,.done)]))]))))) .o6))))
def W3.v (a:Sl)(b:Hp)(c:aP):Prop:=bL (((a.len:Nat):Int)-1) λd=>W7 [bN,bN] (λe=>e 0 d b) λf (g:Int) (h:Int) i=>If (g<h) (dU i λj=>Ix a.a a.len h 1 λk=>gP j bN k λ(l:Int)=>Ix a.a a.len g 1 λm=>gP j bN m λ(n:Int)=>Ix a.a a.len g 1 λo=>dG o (.I l) i λp=>Ix a.a a.len h 1 λq=>dG q (.I n) p λr=>bL (g+1) λs=>bL (h-1) λt=>f s t r) (c i)
theorem W3.o {a b c}(d:W3.v a b c):W3.c a b c:=Wa Tryz.func217 (x:=W3.h) (R0 d)
def Wf.h:Hn:=.q .o1 (.q .o4 (.q (.q .o2 .aJ) (.q (.q .o3 (.k (.loop [(5,.I),(6,.I)] (.q (.q .o4 (.c .l .l)) (.q (.k (.q .o6 (.q .o4 (.c (.q .o5 .o3) .l)))) .o3))))) (.q .o4 (.q .o4 .l)))))
def Wf.v (a:Sl)(b:Fv)(c:Hp)(d:Sl->Hp->Prop):Prop:=Wi.c a b c λe f=>If (e==(-1)) (d a f) (bL (e+1) λg=>W7 [bN,bN] (λh=>h e g f) λi (j:Int) (k:Int) l=>If (k<((a.len:Nat):Int)) (Ix a.a a.len k 3 λm=>aQ m 0 l λn=>aQ m 1 l λo=>aY m 2 l λp=>aV #[.I 0,.I 0,.pointer none] 210 l λq r=>aR q 0 (.I n) r λs=>aR q 1 (.I o) s λt=>aR q 2 (.pointer p) t λu=>aQ q 0 u λv=>aQ q 1 u λw=>aY q 2 u λx=>VN Tryz.prog b [.agg #[.I v,.I w,.pointer x]] [.one .b] u λy z=>If (!y) (aQ q 0 z λaa=>aQ q 1 z λab=>aY q 2 z λac=>Ix a.a a.len j 3 λad=>aR ad 0 (.I aa) z λae=>aR ad 1 (.I ab) ae λaf=>aR ad 2 (.pointer ac) af λag=>bL (j+1) λah=>bL (k+1) λai=>i ah ai ag) (bL (k+1) λaj=>i j aj z)) (eX a 3 j (a.len:Nat) (a.cap:Nat) λak=>Bj ak [.I 0,.I 0,.pointer none] l λal=>eX a 3 0 j (a.cap:Nat) λam=>d am al))
theorem Wf.o {a b c d}(e:Wf.v a b c d):Wf.c a b c d:=Wa Tryz.func227 (x:=Wf.h) (R0 e)
def WN.h:Hn:=.q .o3 .o7
def WN.v (a:Sl)(b:Fv)(c:Hp)(d:aP):Prop:=Ar .u64 ((a.len:Nat):Int) λe=>ZS.c e c λf g=>WM.c a 0 ((a.len:Nat):Int) f b g λh=>d h
theorem WN.o {a b c d}(e:WN.v a b c d):WN.c a b c d:=Wa Tryz.func232 (x:=WN.h) (R0 e)
def Wb.h:Hn:=.q .o2 (.q .o3 (.q .o3 (.q (.k (.loop [(9,.I),(10,.I)] (.q (.q .o3 (.c .l .l)) (.k (.q .o7 (.q .o8 (.c .o3 .o2))))))) (.q (.cV (.seq [.op,.op,.op,.op,.op,.dA true 8 (RI.ops 8),.op,.op])) .l))))
def Wb.v (a:Sl)(b:Int)(c:Fv)(d:Hp)(e:Int->Bool->Hp->Prop):Prop:=W7 [bN,bN] (λf=>f 0 ((a.len:Nat):Int) d) λg (h:Int) (i:Int) j=>If (h<i) (bL (h+i) λk=>Ar .u64 k λl=>Nn (1:Int) <| bL (l.fdiv (2^(min (1:Int).toNat IntKind.u64.bits))) λm=>Ix a.a a.len m 3 λn=>aQ n 0 j λo=>aQ n 1 j λp=>aY n 2 j λq=>VN Tryz.prog c [.agg #[.I o,.I p,.pointer q],.I b] [.I] j λr s=>If (r<0) (bL (m+1) λt=>g t i s) (g h m s)) (bY (λu v=>e h u v) λw=>If (h<((a.len:Nat):Int)) (Ix a.a a.len h 3 λx=>aQ x 0 j λy=>aQ x 1 j λz=>aY x 2 j λaa=>VN Tryz.prog c [.agg #[.I y,.I z,.pointer aa],.I b] [.I] j λab ac=>w (ab==0) ac) (w false j))
theorem Wb.o {a b c d e}(f:Wb.v a b c d e):Wb.c a b c d e:=Wa Tryz.func257 (x:=Wb.h) (R0 f)
def Wg.h:Hn:=.q .o1 (.q .o3 (.q .o3 (.q (.q .o2 .aJ) (.q .o3 (.q (.q .o3 (.c (.q .o4 .l) .l)) (.q (.q .o6 (.c (.q .fV (.q .o5 (.q (.cV (.tail 8 (RI.ops 8) [.op])) .aL))) .l)) (.q .o6 (.q (.q .o8 (.c (.q (.cV (.tail 8 (RI.ops 8) [.op])) (.q .o5 .aL)) .l)) (.q .o5 (.q .o5 .aL))))))))))
def Wg.v (a:Sl)(b:Int)(c:Sl)(d:Hp)(e:Sl->Hp->Prop):Prop:=eX a 3 b (a.len:Nat) (a.cap:Nat) λf=>If (((c.len:Nat):Int)==0) (e a d) (If (b==((a.len:Nat):Int)) (App a 3 24 210 [.I 0,.I 0,.pointer none] c d λg h=>e g h) (bL (((a.len:Nat):Int)+((c.len:Nat):Int)) λi=>If (i>((a.cap:Nat):Int)) (eX a 3 0 b (a.cap:Nat) λj=>bL (((a.len:Nat):Int)+((c.len:Nat):Int)) λk=>bL (k-b) λl=>qZ j 3 24 210 [.I 0,.I 0,.pointer none] l d λm n=>eX m 3 b (m.len:Nat) (m.cap:Nat) λo=>sU o 3 c n λp q=>bL (b+((c.len:Nat):Int)) λr=>eX m 3 r (m.len:Nat) (m.cap:Nat) λs=>eX a 3 b (a.len:Nat) (a.cap:Nat) λt=>sU s 3 t q λu v=>e m v) (bL (((a.len:Nat):Int)+((c.len:Nat):Int)) λw=>eX a 3 0 w (a.cap:Nat) λx=>bL (b+((c.len:Nat):Int)) λy=>eX x 3 y (x.len:Nat) (x.cap:Nat) λz=>sP Tryz.prog 282 [.slice c.a c.len c.cap,.slice z.a z.len z.cap] d λaa ab=>If (!aa) (bL (b+((c.len:Nat):Int)) λac=>eX x 3 ac (x.len:Nat) (x.cap:Nat) λad=>eX x 3 b (x.len:Nat) (x.cap:Nat) λae=>sU ad 3 ae ab λaf ag=>eX x 3 b (x.len:Nat) (x.cap:Nat) λah=>sU ah 3 c ag λai aj=>e x aj) (eX x 3 ((a.len:Nat):Int) (x.len:Nat) (x.cap:Nat) λak=>sU ak 3 c ab λal am=>eX x 3 b (x.len:Nat) (x.cap:Nat) λan=>Km.c an ((c.len:Nat):Int) am λao=>e x ao))))
theorem Wg.o {a b c d e}(f:Wg.v a b c d e):Wg.c a b c d e:=Wa Tryz.func259 (x:=Wg.h) (R0 f)
def Xo.h:Hn:=.q .o1 (.q .o7 .l)
def Xo.v (a:Sl)(b:Hp)(c:Sl->Hp->Prop):Prop:=eX a 1 0 ((a.len:Nat):Int) ((a.len:Nat):Int) λd=>c d b
theorem Xo.o {a b c}(d:Xo.v a b c):Xo.c a b c:=Wa Tryz.func260 (x:=Xo.h) (R0 d)
def Wi.h:Hn:=.q .o1 (.q (.q .o3 (.k (.loop [(8,.I)] (.q .o1 (.q (.c .l .l) (.q (.k (.q .o2 (.q .o6 .aJ))) .o2)))))) .aM)
def Wi.v (a:Sl)(b:Fv)(c:Hp)(d:aN):Prop:=W7 [bN] (λe=>e 0 c) λf (g:Int) h=>If (g<((a.len:Nat):Int)) (Ix a.a a.len g 3 λi=>aQ i 0 h λj=>aQ i 1 h λk=>aY i 2 h λl=>VN Tryz.prog b [.agg #[.I j,.I k,.pointer l]] [.one .b] h λm n=>If m (d g n) (bL (g+1) λo=>f o n)) (d (-1) h)
theorem Wi.o {a b c d}(e:Wi.v a b c d):Wi.c a b c d:=Wa Tryz.func266 (x:=Wi.h) (R0 e)
def Wx.h:Hn:=.q .o1 (.q .o5 .l)
def Wx.v (a:Sl)(b:Fv)(c:Hp)(d:aO):Prop:=WZ.c a b c λe f=>d (decide (e≥0)) f
theorem Wx.o {a b c d}(e:Wx.v a b c d):Wx.c a b c d:=Wa Tryz.func268 (x:=Wx.h) (R0 e)
def Wo.h:Hn:=.q .o1 (.q .o5 .l)
def Wo.v (a:Sl)(b:Int)(c:Hp)(d:aO):Prop:=WG.c a b c λe f=>d (decide (e≥0)) f
theorem Wo.o {a b c d}(e:Wo.v a b c d):Wo.c a b c d:=Wa Tryz.func270 (x:=Wo.h) (R0 e)
def WL.h:Hn:=.q .o1 (.q (.q .o2 .aK) (.q .o4 .l))
def WL.v (a:Sl)(b:Hp)(c:Sl->Hp->Prop):Prop:=If a.a.isNone (c ⟨none,0,0⟩ b) (aV #[] 69 b λd e=>App ⟨some d,0,0⟩ 1 24 69 [.slice none 0 0] a e λf g=>c f g)
theorem WL.o {a b c}(d:WL.v a b c):WL.c a b c:=Wa Tryz.func274 (x:=WL.h) (R0 d)
def X3.h:Hn:=.q .o1 (.jD [] (.q .o3 (.c .o2 .l)) (.q .o4 (.q (.q .o1 (.k (.loop [(3,.I),(4,.I)] (.q (.q .o4 (.c .l .l)) (.q (.k .o7) .o3))))) .aL)))
def X3.v (a:Sl)(b:Hp)(c:aN):Prop:=Jn [] (λd=>Ix a.a a.len 0 1 λe=>bM e d λf=>W7 [bN,bN] (λg=>g f 1 d) λh (i:Int) (j:Int) k=>If (j<((a.len:Nat):Int)) (Ix a.a a.len j 1 λl=>bM l k λm=>bL (j+1) λn=>h (if m<i then m else i) n k) (c i k)) λo=>If (((a.len:Nat):Int)<1) (False) (o b)
theorem X3.o {a b c}(d:X3.v a b c):X3.c a b c:=Wa Tryz.func278 (x:=X3.h) (R0 d)
def Wr.h:Hn:=.q .o3 (.k (.loop [(8,.I)] (.q (.q .o3 (.c .l .l)) (.q (.k (.q .o2 (.k (.loop [(9,.I)] (.q (.q (.cV (.hO true [14] [(34,.one .b)] (.tk [0,1,2,3] (.split 21 (.tk [4,5,6,7,8,9,10,11,12,13] (.all [(14,.take 15 (.take 16 (.done)))])) (.take 4 (.take 5 (.take 6 (.take 7 (.take 8 (.take 9 (.take 10 (.take 11 (.take 12 (.take 13 (.all [(14,.take 15 (.take 16 (.done)))]))))))))))))))) (.c .l .l)) (.q (.k (.cV (.held true [15,17] (.take 0 (.take 1 (.take 2 (.take 3 (.take 4 (.take 5 (.take 6 (.take 7 (.take 8 (.take 9 (.take 10 (.take 11 (.take 12 (.take 13 (.take 14 (.all [(15,.take 16 (.all [(17,.done)]))]))))))))))))))))))) .o3)))))) .o3))))
def Wr.v (a:Sl)(b c:Int)(d:Fv)(e:Hp)(f:aP):Prop:=bL (b+1) λg=>W7 [bN] (λh=>h g e) λi (j:Int) k=>If (j<c) (W7 [bN] (λl=>l j k) λm (n:Int) o=>Jn [.b] (λ(p:Bool) q=>If p (dU q λr=>bL (n-1) λs=>bL (n-1) λt=>Ix a.a a.len t 1 λu=>gP r bN u λ(v:Int)=>Ix a.a a.len n 1 λw=>gP r bN w λ(x:Int)=>Ix a.a a.len n 1 λy=>dG y (.I v) q λz=>Ix a.a a.len s 1 λaa=>dG aa (.I x) z λab=>bL (n-1) λac=>m ac ab) (bL (j+1) λad=>i ad q)) λae=>dU o λaf=>If (n>b) (Ix a.a a.len n 1 λag=>gP af bN ag λ(ah:Int)=>bL (n-1) λai=>Ix a.a a.len ai 1 λaj=>gP af bN aj λ(ak:Int)=>VN Tryz.prog d [.I ah,.I ak] [.I] o λal am=>ae (decide (al<0)) am) (ae false o)) (f k)
theorem Wr.o {a b c d e f}(g:Wr.v a b c d e f):Wr.c a b c d e f:=Wa Tryz.func287 (x:=Wr.h) (R0 g)
def WZ.h:Hn:=.q .o1 (.q (.q .o3 (.k (.loop [(8,.I)] (.q .o1 (.q (.c .l .l) (.q (.k (.q .o2 (.q .o6 .aJ))) .o2)))))) .aM)
def WZ.v (a:Sl)(b:Fv)(c:Hp)(d:aN):Prop:=W7 [bN] (λe=>e 0 c) λf (g:Int) h=>If (g<((a.len:Nat):Int)) (Ix a.a a.len g 1 λi=>bM i h λj=>VN Tryz.prog b [.I j] [.one .b] h λk l=>If k (d g l) (bL (g+1) λm=>f m l)) (d (-1) h)
theorem WZ.o {a b c d}(e:WZ.v a b c d):WZ.c a b c d:=Wa Tryz.func295 (x:=WZ.h) (R0 e)
def WG.h:Hn:=.q .o1 (.q (.q .o3 (.k (.loop [(8,.I)] (.q .o1 (.q (.c .l .l) (.q (.k (.q .o2 (.q .o6 .aJ))) .o2)))))) .aM)
def WG.v (a:Sl)(b:Int)(c:Hp)(d:aN):Prop:=W7 [bN] (λe=>e 0 c) λf (g:Int) h=>If (g<((a.len:Nat):Int)) (Ix a.a a.len g 1 λi=>bM i h λj=>If (b==j) (d g h) (bL (g+1) λk=>f k h)) (d (-1) h)
theorem WG.o {a b c d}(e:WG.v a b c d):WG.c a b c d:=Wa Tryz.func296 (x:=WG.h) (R0 e)
def Wh.h:Hn:=.q .o1 (.q .o5 .l)
def Wh.v (a:Sl)(b:Fv)(c:Hp)(d:aO):Prop:=Wm.c a b c λe f=>d (decide (e≥0)) f
theorem Wh.o {a b c d}(e:Wh.v a b c d):Wh.c a b c d:=Wa Tryz.func300 (x:=Wh.h) (R0 e)
def Wm.h:Hn:=.q .o1 (.q (.q .o3 (.k (.loop [(8,.I)] (.q .o1 (.q (.c .l .l) (.q (.k (.q .o2 (.q .o6 .aJ))) .o2)))))) .aM)
def Wm.v (a:Sl)(b:Fv)(c:Hp)(d:aN):Prop:=W7 [bN] (λe=>e 0 c) λf (g:Int) h=>If (g<((a.len:Nat):Int)) (Ix a.a a.len g 2 λi=>aZ i 0 h λj=>aZ i 1 h λk=>VN Tryz.prog b [.agg #[.bool j,.bool k]] [.one .b] h λl m=>If l (d g m) (bL (g+1) λn=>f n m)) (d (-1) h)
theorem Wm.o {a b c d}(e:Wm.v a b c d):Wm.c a b c d:=Wa Tryz.func314 (x:=Wm.h) (R0 e)
end Go.Proofs
namespace Go.Bu
open Go Go.Vc Go.Proofs
variable {σ:Hp}{p n sb:Nat}{S:Nat->Bool}{ms:List Nat}
theorem nr {k:Nat}{K:Int->Prop}(hk:k<=62)(hK:K ((2^k:Nat):Int)):Nn (k:Int) (Ar .i64 (1*2^(min (k:Int).toNat IntKind.i64.bits)) K):=by
 refine nn O ?_;rw[Cz hk];exact cA aA (Ll hk) hK
theorem Ct {a k:Nat}{K:Int->Prop}(hk:k<=62)(ha:a*2^k<=4611686018427387904)(hK:K ((a*2^k:Nat):Int)):Ar .i64 ((a:Int)*2^(min (k:Int).toNat IntKind.i64.bits)) K:=by
 rw[Cz hk];exact cA aA ha hK
theorem uz {x k j:Nat}{K:Int->Prop}(hj:j=k)(hk:k<=62)(hx:x<=4611686018427387904)(hK:K ((x/2^k*2^k:Nat):Int)) :
 Ar .i64 (((x:Int).fdiv (2^(min (k:Int).toNat IntKind.i64.bits)))*2^(min (j:Int).toNat IntKind.i64.bits)) K:=by
 subst hj;rw[Cz hk,JD];refine cA aA ?_ hK;exact zI (xN _ _) hx
theorem BH.rN (h:BH σ p n S sb ms){K:Int->Prop}(hK:K (n:Int)):fJ .i64 (Addr.add ⟨p,0,none⟩ 0) σ K:=dP h.MF hK
theorem BH.rB (h:BH σ p n S sb ms){K:Sl->Prop}(hK:∀cap,K ⟨some ⟨sb,0,none⟩,ms.length,cap⟩):jn (Addr.add ⟨p,0,none⟩ 1) σ K:=by
 obtain⟨cap,a⟩:=h.lI;rw[add_lit];exact oh a (hK cap)
theorem BH.rM (h:BH σ p n S sb ms){k m:Nat}(hm:ms[k]?=some m){K:Option Nat->Prop}(hK:K (some m)):Ix (some ⟨sb,0,none⟩) ms.length (k:Int) 1 λa=>mQ a σ K:=by
 refine ix O (by have:=(cQ.1 hm).1;omega) ?_;rw[add_lit];refine Eg ?_ hK;have:=h.Ι hm;simpa using this
theorem yU (h:BH σ p n S sb ms){R:aO}(hR:R true σ):XW.c (aW p) σ R:=by
 refine XW.o ?_;unfold XW.v;refine bY.intro (cJ rfl (aG (h.rN ?_)));have:=h.n1;rw[zW O];exact hR
def Zf (n:Nat)(start aF:Int):Bool:=decide (0<=start)&&(decide (1<=aF)&&decide (aF<=n-start))
theorem FK (h:BH σ p n S sb ms)(start aF:Int){R:aN}(h0:Zf n start aF=true->R 0 σ)(h1:Zf n start aF=false->R 1 σ):Ym.c (aW p) start aF σ R:=by
 refine Ym.o ?_;unfold Ym.v;have a:¬(0<=start/\1<=aF/\aF<=n-start)->R 1 σ:=λb=>h1 (by simp only[Zf,←uX];exact zh b);have n1:=h.n1;have n2:=h.n2;refine yU h (cG rfl (bY.intro ?_));refine cI (λh1=>bY.intro (cJ rfl (bY.intro (cJ rfl (cJ rfl (a O)))))) λh1=>?_;refine bY.intro (cI (λe=>bY.intro (cJ rfl (cJ rfl (a O)))) λe=>?_);refine aG (h.rN ?_);refine bY.intro (cI (λg=>cJ rfl (a O)) λg=>?_);refine aG (h.rN (ar O O ?_));refine cI (λd=>a O) λd=>h0 ?_;simp only[Zf,zF,zT];omega
theorem EB (h:BH σ p n S sb ms)(x:Nat)(hx:x<=4611686018427387904){R:Int->Int->Bool->Hp->Prop}
 (h1:∀k q,can S k q=true->x/2^k=q->R (k:Int) ((q*2^k:Nat):Int) true σ) (h0:S x=false->R 0 0 false σ):XF.c (aW p) (x:Int) σ R:=by
 refine XF.o ?_;unfold XF.v;refine aG (h.rB λcap=>?_);refine ZU (a:=bN) (λt u=>∃k:Nat,t=(k:Int)/\k<=ms.length/\u=σ/\∀j,j<k->can S j (x/2^j)=false) (λt _=>ms.length-t.toNat) ⟨0,rfl,O,rfl,λj d=>O⟩ ?_;rintro t u ⟨k,rfl,y,rfl,b⟩;have w:=h.len;refine cI (λg=>?_) (λr=>?_)
 ·simp only at g;obtain⟨m,s⟩:=h.get (k:=k) O;refine h.rM s (nn O (nn O (uz rfl O hx (h.lk s rfl ?_))));cases hc:can S k (x/2^k)
  ·refine cG aA (cA (m:=k+1) O O ?_);refine⟨⟨k+1,rfl,O,rfl,λj d=>?_⟩,O⟩;by_cases e:j=k
   ·rw[e];exact hc
   ·exact b j O
  ·exact cJ aA (h1 k _ hc rfl)
 ·simp only at r;refine h0 ?_;cases hs:S x
  ·rfl
  ·obtain⟨j,d⟩:=VS h.jC hs;have:=h.fits (ZQ h.jC (ZM.1 d).1);rw[b j O]at d;cases d
def mO (S:Nat->Bool)(x:Int):Bool:=decide (0<=x)&&S x.toNat
theorem Ji (h:BH σ p n S sb ms)(x:Int){R:aO}(hR:R (mO S x) σ):XU.c (aW p) x σ R:=by
 refine XU.o ?_;unfold XU.v;have n2:=h.n2;refine yU h (bY.intro (cG rfl ?_));refine bY.intro (cI (λd=>cJ rfl ?_) λd=>aG (h.rN ?_))
 ·have:mO S x=false:=by simp[mO];intro;omega
  rw[this]at hR;exact hR
 ·refine cI (λb=>?_) λb=>?_
  ·have:mO S x=false:=by
    simp only[mO];cases a:S x.toNat
    ·simp
    ·have:=h.jC _ a;omega
   rw[this]at hR;exact hR
  ·obtain⟨y,rfl⟩:=zk (show 0<=x by omega);have e:mO S (y:Int)=S y:=by simp[mO]
   rw[e]at hR;refine EB h y O (λk q g i=>?_) λa=>?_
   ·rw[KV g i]at hR;exact hR
   ·rw[a]at hR;exact hR
theorem NJ {k q:Nat}(h:BH σ p n S sb ms)(hf:q*2^k+2^k<=n)(hd:∀x,x/2^k=q->S x=false){R:aP}
 (hR:∀σ',Ext (· ∈ ms) σ σ'->BH σ' p n (ins S k q) sb ms->R σ'):Zj.c (aW p) (k:Int) ((q*2^k:Nat):Int) σ R:=by
 refine Zj.o ?_;unfold Zj.v;refine Ko (a:=bN) (bb:=bN)
  (λo s C=>∃(j r:Nat) (T:Nat->Bool),o=(j:Int)/\s=((r*2^j:Nat):Int)/\r*2^j+2^j<=n/\BH C p n T sb ms/\Ext (· ∈ ms) σ C/\(∀x,x/2^j=r->T x=false)/\ins T j r=ins S k q)
  (λo _ _=>ms.length-o.toNat) ⟨k,q,S,rfl,rfl,hf,h,Ext.refl _ _,hd,rfl⟩ ?_
 rintro o s C ⟨j,r,T,rfl,rfl,z,d,P,A,y⟩;have Y:=d.len;have X:=d.fits z;have U:=d.n2;have Q:=lb j;obtain⟨m,B⟩:=d.get X;have w:¬full (ins T j r) (j+1) (r/2)=true->(bS (some ⟨p,0,none⟩) λH=>jn (H.add 1) C λE=>Ix E.a E.len (j:Int) 1 λJ=>mQ J C λG=>kR .i64 .b G ((r*2^j:Nat):Int) true C λv3=>R v3):=by
  intro g;refine aG (d.rB λcap=>d.rM B ?_);refine d.wS B A g z rfl λD e K=>hR D (P.trans e) ?_;rw[←y];exact K
 refine cA (m:=j+1) O O (aG (d.rB λcap=>bY.intro ?_));refine cI (λL=>?_) (λM=>?_)
 ·simp only at L;refine aG (d.rB λcap=>d.rM B (nr O ?_));have N:=Ll (show j<=62 by omega);have F:bits .xor .i64 ((r*2^j:Nat):Int) ((2^j:Nat):Int)=((il r*2^j:Nat):Int):=by
   rw[O2 O O,MS]
  rw[F];refine d.lk B rfl ?_;cases hc:can T j (il r)
  ·refine cG aA (w (WmM A (by simp[hc])))
  ·refine cJ aA ?_;refine aG (d.rB λcap=>d.rM B (nr O ?_));rw[F];refine d.r8 B hc rfl λD e K=>?_;refine cA (m:=j+1) O O (nn O (cA (m:=j+1) O O (nn O ?_)));refine uz rfl O O ?_;refine cA (m:=j+1) O O ⟨⟨j+1,r/2,del T j (il r),rfl,?_,?_,K,P.trans e,?_,?_⟩,O⟩
   ·rw[mW,←tF,Ky]
   ·-- both halves lie within
    have u:=ZQ d.jC (ZM.1 hc).1;have W:r/2*2^(j+1)=(r/2*2)*2^j:=by rw[mW,Nat.mul_comm (2^j) 2,←xj]
    rw[W,mW];have g:(r/2*2)+1=r\/(r/2*2)+1=il r:=by unfold il;split<;>omega
    have V:(r/2*2)*2^j+2^j*2=((r/2*2)+1)*2^j+2^j:=by rw[zl];omega
    rw[V];rcases g with e4|e4<;>rw[e4]<;>assumption
   ·intro x F;rcases HE.1 F with u|u
    ·simp[del,A x u]
    ·simp[del,u]
   ·rw[←y];refine ux λx=>?_;rw[VH,VH,VJ,HE];by_cases u:x/2^j=il r
    ·simp[u,KV hc u]
    ·simp[u]
 ·simp only at M;refine cG rfl (w λg=>?_);have:=ZQ (ID d.jC z) g;have u:2^ms.length<=2^(j+1):=oM aB O;have:=d.hi;omega
theorem DS {a m:Nat}(h:BH σ p n S sb ms)(hf:a+m<=n)(hd:∀x,a<=x->x<a+m->S x=false){R:aP}
 (hR:∀σ',Ext (· ∈ ms) σ σ'->BH σ' p n (dJ S a (a+m)) sb ms->R σ'):Yg.c (aW p) (a:Int) (m:Int) σ R:=by
 refine Yg.o ?_;unfold Yg.v;have K:=h.n2;refine Ko (a:=bN) (bb:=bN)
  (λs c y=>∃(a' g:Nat),s=(a':Int)/\c=(g:Int)/\a<=a'/\a'+g=a+m/\BH y p n (dJ S a a') sb ms/\Ext (· ∈ ms) σ y)
  (λ_ c _=>c.toNat) ⟨a,m,rfl,rfl,O,rfl,by rw[M4];exact h,Ext.refl _ _⟩ ?_
 rintro s c y ⟨a',g,rfl,rfl,B,P,F,E⟩;refine cI (λG=>?_) (λU=>?_)
 ·refine ZU (a:=bN) (λk u=>∃j q:Nat,k=(j:Int)/\a'=q*2^j/\2^j<=g/\u=y) (λk _=>12-k.toNat) ⟨0,a',rfl,by simp,by simp;omega,rfl⟩ ?_;rintro k u ⟨j,q,rfl,L,J,rfl⟩;have V:j<=10:=by
   apply Classical.byContradiction;intro hc;have:2^11<=2^j:=oM aB O;omega
  refine cA (m:=j+1) O O (nn O (cA (m:=j+1) O O (nn O ?_)));refine uz rfl O O (bY.intro ?_);have r:(Zj.c (aW p) (j:Int) (a':Int) u λv3=>
   Nn (j:Int)<|Ar .i64 (1*2^(min (j:Int).toNat IntKind.i64.bits)) λC=>Ar .i64 ((a':Int)+C) λd=>
   Nn (j:Int)<|Ar .i64 (1*2^(min (j:Int).toNat IntKind.i64.bits)) λD=>Ar .i64 ((g:Int)-D) λb=>
   (∃(a'' m'':Nat),d=(a'':Int)/\b=(m'':Int)/\a<=a''/\a''+m''=a+m/\BH v3 p n (dJ S a a'') sb ms/\Ext (· ∈ ms) σ v3)/\b.toNat<(g:Int).toNat):=by
   subst L;refine NJ F O (λx N=>?_) λv3 e w=>?_
   ·have:=Qb.1 N;have Q:=hd x O O;simp only[dJ,Q,ym];rw[zh (show ¬x<q*2^j by omega),sA]
   ·have A:=lb j;refine nr O (cA (m:=q*2^j+2^j) O O (nr O (cA (m:=g-2^j) O O ?_)));refine⟨⟨_,_,rfl,rfl,O,O,?_,E.trans e⟩,O⟩;rw[Rc,WhC B O]at w;exact w
  refine cU (λH=>?_) (λH=>cG rfl r);have z:a'/2^(j+1)*2^(j+1)=a':=by
   have:=zZ.1 H
   exact_mod_cast this
  refine cA (m:=j+1) O O (nr O ?_);refine cI (λM=>?_) λ_=>r;refine cA (m:=j+1) O O ⟨⟨j+1,a'/2^(j+1),rfl,z.symm,O,rfl⟩,O⟩
 ·have:g=0:=by omega
  subst this;have:a'=a+m:=by omega
  subst this;exact hR y E F
theorem Iu {a m:Nat}(h:BH σ p n S sb ms)(hf:a+m<=n)(hd:∀x,a<=x->x<a+m->S x=true){R:aP}
 (hR:∀σ',Ext (· ∈ ms) σ σ'->BH σ' p n (take S a (a+m)) sb ms->R σ'):Zq.c (aW p) (a:Int) (m:Int) σ R:=by
 refine Zq.o ?_;unfold Zq.v;have L:=h.n2;refine ZU (a:=bN) (λs w=>∃x:Nat,s=(x:Int)/\a<=x/\BH w p n (take S a (min x (a+m))) sb ms/\Ext (· ∈ ms) σ w)
  (λs _=>a+m-s.toNat) ⟨a,rfl,O,by rw[qg O,PR];exact h,Ext.refl _ _⟩ ?_
 rintro s w ⟨x,rfl,C,d,K⟩;refine cA (m:=a+m) O O ?_;refine cI (λY=>?_) (λaa=>?_)
 ·rw[qg O]at d;have V:take S a x x=true:=Kg.2 ⟨hd x C O,O⟩;refine EB d x O (λk q B N=>?_) (λg=>by rw[V]at g;cases g);have H:=ZQ d.jC (ZM.1 B).1;have Z:=d.fits H;have hl:=d.len;obtain⟨mm,J⟩:=d.get Z;have U:=Qb.1 N;refine aG (d.rB λcap=>d.rM J ?_);refine d.r8 J B rfl λh1 W z=>?_;refine nr O (cA (m:=q*2^k+2^k) O O (cA (m:=x-q*2^k) O O ?_));refine DS z O (λy G D=>?_) λh2 Q e=>?_
  ·have:y/2^k=q:=Qb.2 O;simp[del,this]
  ·have r:=(K.trans W).trans Q;rw[show q*2^k+(x-q*2^k)=x by omega]at e;have j:∀y,q*2^k<=y/\y<q*2^k+2^k->S y=true/\¬(a<=y/\y<x):=λy b=>Kg.1 (KV B (Qb.2 b));refine cA (m:=a+m) O O (cI (λX=>?_) λP=>?_)
   ·refine cA (m:=q*2^k+2^k-(a+m)) O O ?_;refine DS e O (λy G D=>?_) λh3 M u=>?_
    ·have:y/2^k=q:=Qb.2 O;have F:¬y<x:=by omega
     simp[dJ,del,this,F]
    ·refine⟨⟨_,rfl,O,?_,r.trans M⟩,O⟩;rw[Nat.min_eq_right O];have:dJ (dJ (del (take S a x) k q) (q*2^k) x) (a+m) (a+m+(q*2^k+2^k-(a+m)))=take S a (a+m):=by
      refine ux λy=>?_;have b:=j y;simp only[Kj,VJ,Kg,Ne,Qb];generalize q*2^k=A at *;generalize 2^k=E at *;cases g:S y
      ·rw[g]at b;simp only[zb,false_and,false_or,iff_false,imp_false]at b ⊢;omega
      ·rw[g]at b;simp only[sS]at b ⊢;omega
     rw[this]at u;exact u
   ·refine⟨⟨_,rfl,O,?_,r⟩,O⟩;rw[qg O];have:dJ (del (take S a x) k q) (q*2^k) x=take S a (q*2^k+2^k):=by
     refine ux λy=>?_;have b:=j y;simp only[Kj,VJ,Kg,Ne,Qb];generalize q*2^k=A at *;generalize 2^k=E at *;cases g:S y
     ·rw[g]at b;simp only[zb,false_and,false_or,iff_false,imp_false]at b ⊢;omega
     ·rw[g]at b;simp only[sS]at b ⊢;omega
    rw[this]at e;exact e
 ·rw[Nat.min_eq_right O]at d;exact hR w K d
def qB (S:Nat->Bool)(a m:Nat):Bool:=(List.range m).all λi=>!S (a+i)
def iA (S:Nat->Bool)(a m:Nat):Bool:=(List.range m).all λi=>S (a+i)
theorem Vb {S:Nat->Bool}{a m:Nat}:qB S a m=true↔∀x,a<=x->x<a+m->S x=false:=by
 simp only[qB,kN,zU,ni];exact⟨λh x e d=>by have:=h (x-a) O;rwa [show a+(x-a)=x by omega]at this,λh i b=>h _ O O⟩
theorem VX {S:Nat->Bool}{a m:Nat}:iA S a m=true↔∀x,a<=x->x<a+m->S x=true:=by
 simp only[iA,kN,zU];exact⟨λh x e d=>by have:=h (x-a) O;rwa [show a+(x-a)=x by omega]at this,λh i b=>h _ O O⟩
theorem Oz {S:Nat->Bool}{a m x:Nat}(h1:a<=x)(h2:x<a+m)(h:S x=true):qB S a m=false:=by
 cases e:qB S a m
 ·rfl
 ·rw[Vb.1 e x h1 h2]at h;cases h
theorem R9 {S:Nat->Bool}{a m x:Nat}(h1:a<=x)(h2:x<a+m)(h:S x=false):iA S a m=false:=by
 cases e:iA S a m
 ·rfl
 ·rw[VX.1 e x h1 h2]at h;cases h
def yo (n:Nat)(S:Nat->Bool)(a m:Int):Int:=if Zf n a m then(if qB S a.toNat m.toNat then 0 else 9)else 1
def QK (n:Nat)(S:Nat->Bool)(a m:Int):Nat->Bool:=if Zf n a m&&qB S a.toNat m.toNat then dJ S a.toNat (a.toNat+m.toNat)else S
def qY (n:Nat)(S:Nat->Bool)(a m:Int):Int:=if Zf n a m then(if iA S a.toNat m.toNat then 0 else 4)else 1
def j2 (n:Nat)(S:Nat->Bool)(a m:Int):Nat->Bool:=if Zf n a m&&iA S a.toNat m.toNat then take S a.toNat (a.toNat+m.toNat)else S
theorem EX {n:Nat}{a m:Int}(h:Zf n a m=true):∃x y:Nat,a=(x:Int)/\m=(y:Int)/\1<=y/\x+y<=n:=by
 simp only[Zf,zF,zT]at h;exact⟨a.toNat,m.toNat,O,O,O,O⟩
theorem rp (h:BH σ p n S sb ms)(a m:Int){R:aN}
 (hR:∀σ',Ext (· ∈ ms) σ σ'->BH σ' p n (QK n S a m) sb ms->R (yo n S a m) σ'):Yf.c (aW p) a m σ R:=by
 refine Yf.o ?_;unfold Yf.v;have B:=h.n2;refine FK h a m (λb=>cG rfl ?_) (λb=>cJ rfl ?_)
 ·obtain⟨x,y,rfl,rfl,H,w⟩:=EX b;refine ZU (a:=bN) (λt s=>∃z:Nat,t=(z:Int)/\x<=z/\s=σ/\∀u,x<=u->u<z->S u=false) (λt _=>x+y-t.toNat) ⟨x,rfl,O,rfl,λu _ _=>O⟩ ?_;rintro t s ⟨z,rfl,E,rfl,g⟩;refine cA (m:=x+y) O O ?_;refine cI (λD=>Ji h _ ?_) (λF=>?_)
  ·have e:mO S (z:Int)=S z:=by simp[mO]
   rw[e];cases hs:S z
   ·refine cG rfl (cA (m:=z+1) O O ⟨⟨z+1,rfl,O,rfl,λu r C=>?_⟩,O⟩);by_cases e:u=z
    ·rw[e];exact hs
    ·exact g u r O
   ·refine cJ rfl ?_;have j:=Oz (m:=y) E O hs;have:=hR s (Ext.refl _ _);simp only[yo,QK,b,dC,j,sA,zS,zb,zy]at this;exact this h
  ·have d:∀u,x<=u->u<x+y->S u=false:=λu r C=>g u r O;have j:=Vb.2 d;refine DS h w d λr G A=>?_;have:=hR r G;simp only[yo,QK,b,dC,j,uq,zS]at this;exact this A
 ·have:=hR σ (Ext.refl _ _);simp only[yo,QK,b,tH,zb,zy]at this;exact this h
theorem nc (h:BH σ p n S sb ms)(a m:Int){R:aN}
 (hR:∀σ',Ext (· ∈ ms) σ σ'->BH σ' p n (j2 n S a m) sb ms->R (qY n S a m) σ'):XB.c (aW p) a m σ R:=by
 refine XB.o ?_;unfold XB.v;have B:=h.n2;refine FK h a m (λb=>cG rfl ?_) (λb=>cJ rfl ?_)
 ·obtain⟨x,y,rfl,rfl,H,w⟩:=EX b;refine ZU (a:=bN) (λt s=>∃z:Nat,t=(z:Int)/\x<=z/\s=σ/\∀u,x<=u->u<z->S u=true) (λt _=>x+y-t.toNat) ⟨x,rfl,O,rfl,λu _ _=>O⟩ ?_;rintro t s ⟨z,rfl,E,rfl,g⟩;refine cA (m:=x+y) O O ?_;refine cI (λD=>Ji h _ ?_) (λF=>?_)
  ·have e:mO S (z:Int)=S z:=by simp[mO]
   rw[e];cases hs:S z
   ·refine cJ rfl ?_;have j:=R9 (m:=y) E O hs;have:=hR s (Ext.refl _ _);simp only[qY,j2,b,dC,j,sA,zS,zb,zy]at this;exact this h
   ·refine cG rfl (cA (m:=z+1) O O ⟨⟨z+1,rfl,O,rfl,λu r C=>?_⟩,O⟩);by_cases e:u=z
    ·rw[e];exact hs
    ·exact g u r O
  ·have d:∀u,x<=u->u<x+y->S u=true:=λu r C=>g u r O;have j:=VX.2 d;refine Iu h w d λr G A=>?_;have:=hR r G;simp only[qY,j2,b,dC,j,uq,zS]at this;exact this A
 ·have:=hR σ (Ext.refl _ _);simp only[qY,j2,b,tH,zb,zy]at this;exact this h
theorem OQ {n:Nat}{S:Nat->Bool}(hb:Bounded S n)(K:Nat):kT n S K<=n:=by
 rw[Gn hb];exact zI vt aA
theorem rD (h:BH σ p n S sb ms){R:aN}(hR:R ((iR n S:Nat):Int) σ):Zs.c (aW p) σ R:=by
 refine Zs.o ?_;unfold Zs.v;have r:=h.n2;have u:=h.len;refine yU h (cG rfl (aG (h.rB λcap=>?_)));refine Ko (a:=bN) (bb:=bN) (λc t g=>∃k:Nat,c=((kT n S k:Nat):Int)/\t=(k:Int)/\k<=ms.length/\g=σ) (λ_ t _=>ms.length-t.toNat) ⟨0,rfl,rfl,O,rfl⟩ ?_;rintro c t g ⟨k,rfl,rfl,w,rfl⟩;have j:=OQ h.jC (k+1);have s:kT n S (k+1)=kT n S k+many n S k*2^k:=rfl;refine cI (λb=>?_) (λd=>?_)
 ·simp only at b;obtain⟨m,e⟩:=h.get (k:=k) O;refine h.rM e (h.kU e (nn O (Ct O O ?_)));refine cA (m:=kT n S (k+1)) O O (cA (m:=k+1) O O ⟨⟨k+1,rfl,rfl,O,rfl⟩,O⟩)
 ·simp only at d;have:k=ms.length:=by omega
  subst this;rw[Rk h.jC h.hi];exact hR
end Go.Bu
namespace Go.Ar
open Go.Bu
def ud (n:Nat)(h:Int):Bool:=decide (0<=h)&&decide (h<((n/16:Nat):Int))
def ld (st:List Nat)(h:Int):Int:=if ud st.length h then(if st.getD (16*h.toNat) 0=0 then 0 else 5)else 1
def jo (st:List Nat)(h:Int):List Nat:=if ld st h=0 then fY st (16*h.toNat) (16*h.toNat+16) 3 else st
def vp (st:List Nat)(h:Nat):Bool:=st.getD (16*h) 0 != 0&&gA st (16*h) (16*h+16) 1==0
def lO (st:List Nat)(h:Int):Int:=if ud st.length h then(if vp st h.toNat then 0 else 5)else 1
def jS (st:List Nat)(h:Int):List Nat:=if lO st h=0 then fY st (16*h.toNat) (16*h.toNat+16) 0 else st
def uF (st:List Nat)(a m:Nat)(fr:List Nat):Bool:=((st.drop a).take m).all fr.contains
def GX (st:List Nat)(a m:Int)(fr:List Nat):Int:=if Zf st.length a m then(if uF st a.toNat m.toNat fr then 0 else 5)else 1
def VQ (st:List Nat)(a m:Int)(v:Nat)(fr:List Nat):List Nat:=if GX st a m fr=0 then fY st a.toNat (a.toNat+m.toNat) v else st
def KP (st:List Nat)(h:Nat):Nat:=if gA st (16*h) (16*h+16) 1=0 then 0 else if 0<gA st (16*h) (16*h+16) 3 then 1 else 2
def Kf (st:List Nat)(k:Nat):List Nat:=(List.range (st.length/16)).filter λh=>st.getD (16*h) 0 != 0&&KP st h==k
def used (st:List Nat)(h:Nat):Nat:=gA st (16*h) (16*h+16) 1
def yY (st:List Nat)(g h:Nat):Bool:=
 decide (KP st g<KP st h)||(KP st g==KP st h&&(decide (used st g<used st h)||(used st g==used st h&&decide (h<g))))
def ng (st:List Nat)(l:List Nat)(h:Nat):List Nat:=l.takeWhile (λg=>yY st g h)++h::l.dropWhile (λg=>yY st g h)
def eO (st:List Nat):List Nat:=((List.range (st.length/16)).filter λh=>0<gA st (16*h) (16*h+16) 2).foldl (ng st) []
def gg (st:List Nat)(p m:Nat):Nat:=(((st.drop p).take m).takeWhile (· == 2)).length
def QX (st:List Nat)(e:Nat):Nat->Nat->List (Nat×Nat)
 | 0,_=>[]
 | f+1,p=>if e<=p then[]else if gg st p (e-p)=0 then QX st e f (p+1)else(p,gg st p (e-p))::QX st e f (p+gg st p (e-p)+1)
def KM (st:List Nat)(h:Nat):List (Nat×Nat):=QX st (16*h+16) 17 (16*h)
def gM (want:Int):Nat->List (Nat×Nat)->List (Nat×Nat)
 | _,[]=>[]
 | p,r::rs=>if want<=(p:Int)then[]else r::gM want (p+r.2) rs
def Hq (st:List Nat)(want:Int):List (Nat×Nat):=gM want 0 ((eO st).flatMap (KM st))
structure Sp where
 st:List Nat
 wd:Nat->Int
 pk:Nat
def Sp.set (s:Sp)(a m v:Nat):Sp:={s with st:=fY s.st a (a+m) v,wd:=λw=>if a*32<=w/\w<(a+m)*32 then 0 else s.wd w}
def yT (st:List Nat)(a m v:Nat):Bool:=((st.drop a).take m).contains v
def fC (s:Sp)(a m:Int):Int:=if Zf s.st.length a m then(if((s.st.drop a.toNat).take m.toNat).any (· != 0)then 5 else 0)else 1
def gC (s:Sp)(a m:Int):Sp:=if fC s a m=0 then s.set a.toNat m.toNat 1 else s
def fD (s:Sp)(a m:Int):Int:=if Zf s.st.length a m then(if yT s.st a.toNat m.toNat 0 then 7 else 0)else 1
def dX (s:Sp)(a m:Int)(v:Nat):Sp:=if fD s a m=0 then s.set a.toNat m.toNat v else s
def j6 (s:Sp)(x:Int):Int:=if x<0\/x%8≠0 then 7 else if s.st.getD (x.toNat/256) 0=0 then 7 else 0
def oe (s:Sp)(w:Nat)(v:Int):Sp:=
 {st:=s.st.set (w/32) 2,wd:=λu=>if u=w then v else s.wd u,pk:=if s.st.getD (w/32) 0=2 then s.pk else max s.pk ((s.st.set (w/32) 2).count 2)}
def UU (s:Sp)(x v:Int):Sp:=if j6 s x=0 then oe s (x.toNat/8) v else s
end Go.Ar
namespace Go.Ar
structure Li where
 os:List Int
 lim:Nat
 low:Nat
 deriving DecidableEq
def iv:Li:=⟨[],1,0⟩
structure fR (l:Li):Prop where
 low:l.low<=l.os.length
 many:l.os.length<=256
 lim:l.lim<=128
 oA:1<=l.lim
def gQ (m:Nat)(l:Li):List Int×Li:=(l.os.take m,{l with os:=l.os.drop m,low:=min l.low (l.os.length-m)})
def nf (c:bW)(l:Li):Li:=if l.lim<c.batch then{l with lim:=l.lim+1}else l
def Kb (c:bW)(l:Li):Option Int×Li:=match l.os.getLast? with
 | none=>(none,if l.lim<c.batch then{l with lim:=l.lim+1}else{l with lim:=min (l.lim+c.batch) 128})
 | some x=>(some x,{l with os:=l.os.dropLast,low:=min l.low (l.os.length-1)})
def pv (c:bW)(l:Li):Nat:=min l.lim c.batch
def eL (xs:List Int)(l:Li):Li:=if l.os.length+xs.length>256 then l else{l with os:=l.os++xs}
def dQ (c:bW)(x:Int)(l:Li):List Int×Li:=
 if l.os.length+1>256 then([],l)
 else if l.os.length+1<=l.lim then([],eL [x] l)
 else gQ (min c.batch (l.os.length+1)) (nf c (eL [x] l))
def KH (c:bW)(l:Li):List Int×Li:=
 ((gQ ((l.low+1)/2) l).1,{os:=(gQ ((l.low+1)/2) l).2.os,lim:=if l.lim>c.batch then max (l.lim-c.batch) c.batch else l.lim,low:=(gQ ((l.low+1)/2) l).2.os.length})
def ZX (_:bW)(l:Li):List Int×Li:=gQ l.os.length l
abbrev Bt:=Nat×List Int
def Ka (f:bW->Li->List Int×Li)(tb:List bW)(ls:List Li):List Bt:=(List.range tb.length).filterMap λk=>match tb[k]?,ls[k]? with
 | some c,some l=>if(f c l).1=[]then none else some (k,(f c l).1)
 | _,_=>none
def Q6 (f:bW->Li->List Int×Li)(tb:List bW)(ls:List Li):List Li:=List.zipWith (λc l=>(f c l).2) tb ls
def Qt (tb:List bW)(ls:List Li):Nat:=((tb.zip ls).map λx=>x.1.size*x.2.os.length).sum
theorem fR.nil:fR iv:=⟨zD _,by decide,by decide,by decide⟩
theorem yr {m:Nat}{l:Li}(h:fR l):fR (gQ m l).2:=by
 have b:=h.low;have a:=h.many;refine⟨?_,?_,h.lim,h.oA⟩
 ·simp only[gQ,zu];omega
 ·simp only[gQ,zu];omega
theorem Ih {c:bW}{l:Li}(hc:c.ok)(h:fR l):fR (Kb c l).2:=by
 have b:=h.low;have a:=h.many;have d:=h.lim;have e:=h.oA;unfold bW.ok at hc;unfold Kb;split
 ·split
  ·exact⟨b,a,by simp only;omega,by simp only;omega⟩
  ·exact⟨b,a,by simp only;omega,by simp only;omega⟩
 ·exact⟨by simp only[Bp];omega,by simp only[Bp];omega,d,e⟩
theorem yV {xs:List Int}{l:Li}(h:fR l):fR (eL xs l):=by
 have b:=h.low;have a:=h.many;unfold eL;split
 ·exact h
 ·exact⟨by simp only[zK];omega,by simp only[zK];omega,h.lim,h.oA⟩
theorem IQ {c:bW}{l:Li}(hc:c.ok)(h:fR l):fR (nf c l):=by
 have a:=h.lim;unfold bW.ok at hc;unfold nf;split
 ·exact⟨h.low,h.many,by simp only;omega,by simp only;omega⟩
 ·exact h
theorem Py {c:bW}{x:Int}{l:Li}(hc:c.ok)(h:fR l):fR (dQ c x l).2:=by
 unfold dQ;split
 ·exact h
 ·split
  ·exact yV h
  ·exact yr (IQ hc (yV h))
theorem Ia {c:bW}{l:Li}(hc:c.ok)(h:fR l):fR (KH c l).2:=by
 have a:=(yr (m:=(l.low+1)/2) h).many;have b:=h.lim;have d:=h.oA;unfold bW.ok at hc;refine⟨zD _,a,?_,?_⟩<;>simp only[KH]<;>split<;>omega
theorem ς {c:bW}{l:Li}(h:fR l):fR (ZX c l).2:=yr h
theorem SB (c:bW)(hc:c.ok):KH c iv=([],iv):=by
 unfold bW.ok at hc;simp[KH,iv,gQ];omega
theorem M5 (c:bW):ZX c iv=([],iv):=by simp[ZX,iv,gQ]
def fQ.rem (t:fQ):fQ:={low:=min t.low (t.bs.length-1),bs:=t.bs.dropLast}
def fQ.tick (t:fQ):fQ:={low:=(t.bs.drop ((t.low+1)/2)).length,bs:=t.bs.drop ((t.low+1)/2)}
def fQ.out (t:fQ):List (List Int):=t.bs.take ((t.low+1)/2)
end Go.Ar
namespace Go.Proofs
open Go.Vc
set_option maxRecDepth 100000
def Zt.h:Hn:=.q .o1 (.q (.q (.cV (.seq [.op,.op,.op,.op,.dA false 2 [.op,.op],.op,.dA false 2 [.op,.op]])) .aK) (.q .o9 (.q (.q (.cV (.seq [.op,.op,.op,.dA false 8 (RI.ops 8)])) .aK) (.q (.o 13) .l))))
def Zt.v (a:R2)(b:Int)(c:Hp)(d:aN):Prop:=XP.c a c λe f=>bY (λg h=>bY (λi j=>If i (d 0 j) (Nz 8<|bL (b.tdiv 8) λk=>Nz 8<|bL (k.tdiv 8) λl=>bS a λm=>oF (m.add 1) 16 l 1 λn=>fW n j λo=>bY (λp q=>If p (d 0 q) (Nz 8<|bL (b.tdiv 8) λr=>Nz 8 <| bS o λs=>oF s 8 (r.tmod 8) 1 λt=>fW t q λu=>Nz 8 <| bS u λv=>oF v 8 (b.tmod 8) 1 λw=>bM w q λx=>d x q)) λy=>If o.isNone (y true j) (Nz 8<|bL (b.tdiv 8) λz=>Nz 8 <| bS o λaa=>oF aa 8 (z.tmod 8) 1 λab=>fW ab j λac=>y ac.isNone j))) λad=>If g (ad true h) (ad (decide (b≥1024)) h)) λae=>If (!e) (ae true f) (ae (decide (b<0)) f)
theorem Zt.o {a b c d}(e:Zt.v a b c d):Zt.c a b c d:=Wa Tryz.func114 (x:=Zt.h) (R0 e)
def XP.h:Hn:=.q .o1 (.q (.cV (.seq [.op,.op,.op,.dA true 4 (RI.ops 4),.op])) .l)
def XP.v (a:R2)(b:Hp)(c:aO):Prop:=bY (λd e=>c d e) λf=>If (!a.isNone) (bG a 0 b λh=>f h b) (f false b)
theorem XP.o {a b c}(d:XP.v a b c):XP.c a b c:=Wa Tryz.func144 (x:=XP.h) (R0 d)
def Qf.h:Hn:=.q .o1 (.q .o3 .l)
def Qf.v (a:Hp)(b:Option Addr->Hp->Prop):Prop:=aV #[.bool true,.pointer none,.pointer none,.pointer none,.pointer none,.pointer none,.pointer none,.pointer none,.pointer none,.pointer none,.pointer none,.pointer none,.pointer none,.pointer none,.pointer none,.pointer none,.pointer none] 223 a λc d=>b (some c) d
theorem Qf.o {a b}(c:Qf.v a b):Qf.c a b:=Wa Tryz.func150 (x:=Qf.h) (R0 c)
def YY.h:Hn:=.q .o1 (.q (.k (.q .o4 (.c .aM (.q (.cV (.seq [.op,.op,.op,.dA false 2 [.op,.op],.op,.dA false 2 [.op,.op],.op,.dA false 4 (RI.ops 4),.op])) .aK)))) (.q (.q .o2 (.k (.loop [(9,.I)] (.q (.q .o5 (.c .l .l)) (.q (.k .o4) .o3))))) .aM))
def YY.v (a:R2)(b c d:Int)(e:Hp)(f:aN):Prop:=XP.c a e λg h=>If (!g) (f 5 h) (bY (λi j=>bY (λk l=>bY (λm n=>If m (f 1 n) (W7 [bN] (λo=>o b n) λp (q:Int) r=>bL (b+c) λs=>If (q<s) (Zo.c a q d r λt=>bL (q+1) λu=>p u t) (f 0 r))) λv=>If k (v true l) (bL (1024-b) λw=>v (decide (c>w)) l)) λx=>If i (x true j) (x (decide (b>1024)) j)) λy=>If (b<0) (y true h) (y (decide (c<1)) h))
theorem YY.o {a b c d e f}(g:YY.v a b c d e f):YY.c a b c d e f:=Wa Tryz.func152 (x:=YY.h) (R0 g)
def Zo.h:Hn:=.q .o9 (.q .o8 (.q .o7 (.jD [] (.q .o5 (.c .o7 .l)) (.q .o5 (.c .o8 .l)))))
def Zo.v (a:R2)(b c:Int)(d:Hp)(e:aP):Prop:=Nz 8<|bL (b.tdiv 8) λf=>Nz 8<|bL (f.tdiv 8) λg=>bS a λh=>oF (h.add 1) 16 g 1 λi=>Ww.c (some i) d λj k=>Nz 8<|bL (b.tdiv 8) λl=>Nz 8 <| bS j λm=>oF m 8 (l.tmod 8) 1 λn=>Wy.c (some n) k λo p=>Nz 8 <| bS o λq=>oF q 8 (b.tmod 8) 1 λr=>dG r (.I c) p λs=>Jn [] (λt=>bS j λu=>aY u 0 t λv=>aY u 1 t λw=>aY u 2 t λx=>aY u 3 t λy=>aY u 4 t λz=>aY u 5 t λaa=>aY u 6 t λab=>aY u 7 t λac=>If (v.isNone&&(w.isNone&&(x.isNone&&(y.isNone&&(z.isNone&&(aa.isNone&&(ab.isNone&&(ac.isNone&&true)))))))) (Nz 8<|bL (b.tdiv 8) λad=>Nz 8<|bL (ad.tdiv 8) λae=>bS a λaf=>oF (af.add 1) 16 ae 1 λag=>dG ag (.pointer none) t λah=>e ah) (e t)) λai=>bS o λaj=>aQ aj 0 s λak=>aQ aj 1 s λal=>aQ aj 2 s λam=>aQ aj 3 s λan=>aQ aj 4 s λao=>aQ aj 5 s λap=>aQ aj 6 s λaq=>aQ aj 7 s λar=>If ((ak==0)&&((al==0)&&((am==0)&&((an==0)&&((ao==0)&&((ap==0)&&((aq==0)&&((ar==0)&&true)))))))) (Nz 8<|bL (b.tdiv 8) λau=>Nz 8 <| bS j λav=>oF av 8 (au.tmod 8) 1 λaw=>dG aw (.pointer none) s λax=>ai ax) (ai s)
theorem Zo.o {a b c d e}(f:Zo.v a b c d e):Zo.c a b c d e:=Wa Tryz.func204 (x:=Zo.h) (R0 f)
def XV.h:Hn:=.q .o1 (.q .o5 .l)
def XV.v (a:R2)(b c:Int)(d:Hp)(e:aN):Prop:=YY.c a b c 0 d λf g=>e f g
theorem XV.o {a b c d e}(f:XV.v a b c d e):XV.c a b c d e:=Wa Tryz.func224 (x:=XV.h) (R0 f)
def Ww.h:Hn:=.q .o1 (.jD [] (.q .o4 (.c .o4 .l)) (.q .o4 .l))
def Ww.v (a:R2)(b:Hp)(c:Option Addr->Hp->Prop):Prop:=Jn [] (λd=>bS a λe=>fW e d λf=>c f d) λg=>bS a λh=>fW h b λi=>If i.isNone (aV #[.pointer none,.pointer none,.pointer none,.pointer none,.pointer none,.pointer none,.pointer none,.pointer none] 329 b λj k=>bS a λl=>dG l (.pointer (some j)) k λm=>g m) (g b)
theorem Ww.o {a b c}(d:Ww.v a b c):Ww.c a b c:=Wa Tryz.func247 (x:=Ww.h) (R0 d)
def Wy.h:Hn:=.q .o1 (.jD [] (.q .o4 (.c .o4 .l)) (.q .o4 .l))
def Wy.v (a:R2)(b:Hp)(c:Option Addr->Hp->Prop):Prop:=Jn [] (λd=>bS a λe=>fW e d λf=>c f d) λg=>bS a λh=>fW h b λi=>If i.isNone (aV #[.I 0,.I 0,.I 0,.I 0,.I 0,.I 0,.I 0,.I 0] 333 b λj k=>bS a λl=>dG l (.pointer (some j)) k λm=>g m) (g b)
theorem Wy.o {a b c}(d:Wy.v a b c):Wy.c a b c:=Wa Tryz.func248 (x:=Wy.h) (R0 d)
def Yc.h:Hn:=.q .o1 (.q (.q (.cV (.seq [.op,.op,.op,.dA true 6 [.op,.op,.op,.dA false 2 [.op,.op]]])) .aK) (.q .o6 .l))
def Yc.v (a:R2)(b c d:Int)(e:Hp)(f:aN):Prop:=XP.c a e λg h=>bY (λi j=>If i (f 1 j) (YY.c a b c d j λk l=>f k l)) λm=>If g (bY (λn o=>m n o) λp=>If (d<1) (p true h) (p (decide (d>1073741824)) h)) (m false h)
theorem Yc.o {a b c d e f}(g:Yc.v a b c d e f):Yc.c a b c d e f:=Wa Tryz.func255 (x:=Yc.h) (R0 g)
end Go.Proofs
namespace Go.Ar
open Go Go.Vc Go.Proofs
open Go.Bu (Zf)
variable {σ:Hp}{F:Rg}{p:Nat}{M Lf:Nat->Option Nat}{ow:Nat->Nat}
def fO {α:Type}(f:Nat->α)(k:Nat)(v:α):Nat->α:=λi=>if i=k then v else f i
theorem ZN {α:Type}(f:Nat->α)(k:Nat)(v:α):fO f k v k=v:=by simp[fO]
theorem Qq {α:Type}(f:Nat->α){k i:Nat}(v:α)(h:i≠k):fO f k v i=f i:=by simp[fO,h]
theorem Ke {α:Type}(f:Nat->α)(n k:Nat)(v:α):((List.range n).map f).set k v=(List.range n).map (fO f k v):=by
 apply zz;intro i;by_cases hik:i=k
 ·subst hik;rcases l8 i n with h|h
  ·rw[zM (by simpa using h)];simp[nR h,fO]
  ·rw[zY (by simpa using h),zY (by simpa using h)]
 ·rw[zi (Ne.symm hik)];simp only[ze];rcases l8 i n with h|h
  ·simp[nR h,fO,hik]
  ·simp[zY (show(List.range n).length<=i by simpa using h)]
theorem Ki {α:Type}(f:Nat->α){n k:Nat}(h:k<n):((List.range n).map f)[k]?=some (f k):=by simp[nR h]
def ptr (o:Option Nat):Value:=.pointer (o.map λq=>⟨q,0,none⟩)
structure kD (σ:Hp) (F:Rg) (p:Nat) (M Lf:Nat->Option Nat) (ow:Nat->Nat):Prop where
 hd:bX σ p (.bool true::(List.range 16).map λi=>ptr (M i))
 jF:∀i q,i<16->M i=some q->bX σ q ((List.range 8).map λj=>ptr (Lf (8*i+j)))
 lZ:∀i,i<16->M i=none->∀j,j<8->Lf (8*i+j)=none
 leaf:∀k q,k<128->Lf k=some q->bX σ q ((List.range 8).map λj=>.int .i64 ((ow (8*k+j):Nat):Int))
 iV:∀k,k<128->Lf k=none->∀j,j<8->ow (8*k+j)=0
 fp:F p
 fm:∀i q,i<16->M i=some q->F q/\q≠p
 fl:∀k q,k<128->Lf k=some q->F q/\q≠p
 mm:∀i j q,i<16->j<16->M i=some q->M j=some q->i=j
 ll:∀i j q,i<128->j<128->Lf i=some q->Lf j=some q->i=j
 ml:∀i k q,i<16->k<128->M i=some q->Lf k≠some q
def jB (σ:Hp)(F:Rg)(p:Nat)(ow:Nat->Nat):Prop:=∃M Lf,kD σ F p M Lf ow
theorem kD.move {σ':Hp}{G:Rg}(h:kD σ F p M Lf ow)(hb:∀b,b<σ.size->F b->σ'[b]?=σ[b]?)(hg:∀b,b<σ.size->F b->G b):kD σ' G p M Lf ow:=by
 have j:∀{b:Nat} {cs:List Value},bX σ b cs->F b->bX σ' b cs:=by
  rintro b cs ⟨e,m⟩ r;exact⟨e,(hb b (bX.lt ⟨e,m⟩) r).trans m⟩
 exact⟨j h.hd h.fp,λi q d a=>j (h.jF i q d a) (h.fm i q d a).1,h.lZ,λk q g a=>j (h.leaf k q g a) (h.fl k q g a).1,h.iV,hg p h.hd.lt h.fp,
  λi q d a=>⟨hg q (h.jF i q d a).lt (h.fm i q d a).1,(h.fm i q d a).2⟩,λk q g a=>⟨hg q (h.leaf k q g a).lt (h.fl k q g a).1,(h.fl k q g a).2⟩,h.mm,h.ll,h.ml⟩
theorem jB.loc:dR λσ F=>jB σ F p ow:=λσ i F G ⟨M,Lf,h⟩ g e=>⟨M,Lf,h.move (λb a d=>(e b a d).2) λb a d=>(e b a d).1⟩
theorem jB.congr {ow':Nat->Nat}(h:jB σ F p ow)(he:∀x,x<1024->ow x=ow' x):jB σ F p ow':=by
 obtain⟨M,Lf,h⟩:=h;refine⟨M,Lf,h.hd,h.jF,h.lZ,λk q b a=>?_,λk b a j d=>?_,h.fp,h.fm,h.fl,h.mm,h.ll,h.ml⟩
 ·have:=h.leaf k q b a;have e:((List.range 8).map λj=>Value.int .i64 ((ow (8*k+j):Nat):Int))=(List.range 8).map λj=>Value.int .i64 ((ow' (8*k+j):Nat):Int):=by
   apply zw;intro j d;rw[zU]at d;rw[he _ O]
  rw[←e];exact this
 ·rw[←he _ O];exact h.iV k b a j d
theorem Dp (h:jB σ F p ow){R:aO}(hR:R true σ):XP.c (aW p) σ R:=by
 refine XP.o ?_;unfold XP.v;obtain⟨M,Lf,h⟩:=h;exact bY.intro (cJ rfl (aG (h.hd.rB rfl hR)))
theorem rl {a:Addr}{n i sz:Nat}{K:Addr->Prop}(hi:i<n)(hK:K (a.add (i*sz))):oF a n (i:Int) sz K:=⟨O,O,by simpa using hK⟩
theorem kD.rM (h:kD σ F p M Lf ow){i:Nat}(hi:i<16){K:Option Addr->Prop}(hK:K ((M i).map λq=>⟨q,0,none⟩)):fW ⟨p,1+i,none⟩ σ K:=by
 refine h.hd.vG ?_ hK;rw[Nat.add_comm,Ap,Ki _ hi];rfl
theorem kD.rL (h:kD σ F p M Lf ow){i j q:Nat}(hi:i<16)(hq:M i=some q)(hj:j<8){K:Option Addr->Prop}(hK:K ((Lf (8*i+j)).map λq=>⟨q,0,none⟩)):fW ⟨q,j,none⟩ σ K:=
 (h.jF i q hi hq).vG (Ki _ hj) hK
theorem kD.rN (h:kD σ F p M Lf ow){k j q:Nat}(hk:k<128)(hq:Lf k=some q)(hj:j<8){K:Int->Prop}(hK:K ((ow (8*k+j):Nat):Int)):fJ .i64 ⟨q,j,none⟩ σ K:=
 (h.leaf k q hk hq).xl (Ki _ hj) hK
def qI (ow:Nat->Nat)(x:Int):Nat:=if 0<=x/\x<1024 then ow x.toNat else 0
theorem Ρ (h:jB σ F p ow)(x:Int){R:aN}(hR:R ((qI ow x:Nat):Int) σ):Zt.c (aW p) x σ R:=by
 refine Zt.o ?_;unfold Zt.v;have z:=h;obtain⟨M,Lf,h⟩:=h;refine Dp z (bY.intro (cG rfl (bY.intro (cI (λj=>cJ rfl ?_) λj=>?_))))
 ·have:qI ow x=0:=by unfold qI;rw[zA O]
  rw[this]at hR;exact hR
 refine cI (λw=>?_) λi=>?_
 ·have:qI ow x=0:=by unfold qI;rw[zA O]
  rw[this]at hR;exact hR
 obtain⟨y,rfl⟩:=zk (show 0<=x by omega);have A:y<1024:=by omega
 have u:qI ow (y:Int)=ow y:=by unfold qI;rw[zB O];rfl
 rw[u]at hR;have d:((y:Int).tdiv 8)=((y/8:Nat):Int):=by rw[YK O];simp
 have s:(((y/8:Nat):Int).tdiv 8)=((y/8/8:Nat):Int):=by rw[YK O];simp
 have e:(((y/8:Nat):Int).tmod 8)=((y/8%8:Nat):Int):=by rw[Q9 O];simp
 have m:((y:Int).tmod 8)=((y%8:Nat):Int):=by rw[Q9 O];simp
 have b:8*(y/8/8)+y/8%8=y/8:=by omega
 have a:8*(y/8)+y%8=y:=by omega
 refine nz aB (cA d O (nz aB (cA s O (aG ?_))));refine rl O ?_;rw[add_lit,add_lit,zG,oy];refine h.rM O (bY.intro ?_);cases hM:M (y/8/8)with
 | none=>
  refine cJ rfl (cJ rfl ?_);have g:=h.lZ _ O hM (y/8%8) O;rw[b]at g;have:=h.iV _ O g (y%8) O;rw[a]at this;rw[this]at hR;exact hR
 | some q=>
  refine cG rfl (nz aB (cA d O (nz aB (aG ?_))));rw[e];refine rl O ?_;rw[add_lit,zG,oy];refine h.rL O hM O ?_;rw[b];cases hL:Lf (y/8)with
  | none=>
   refine cJ rfl ?_;have:=h.iV _ O hL (y%8) O;rw[a]at this;rw[this]at hR;exact hR
  | some r=>
   refine cG rfl (nz aB (cA d O (nz aB (aG ?_))));rw[e];refine rl O ?_;rw[add_lit,zG,oy];refine h.rL O hM O ?_;rw[b,hL];refine nz aB (aG ?_);rw[m];refine rl O ?_;rw[add_lit,zG,oy];refine h.rN O hL O ?_;rw[a];exact hR
theorem Sh {R:Option Addr->Hp->Prop}(hR:∀σ' p,bO σ σ'->σ.size<=p->jB σ' (λb=>σ.size<=b) p (λ_=>0)->R (some ⟨p,0,none⟩) σ'):Qf.c σ R:=by
 refine Qf.o ?_;unfold Qf.v;refine nw (cs:=[.bool true,.pointer none,.pointer none,.pointer none,.pointer none,.pointer none,.pointer none,.pointer none,.pointer none,.pointer none,.pointer none,.pointer none,.pointer none,.pointer none,.pointer none,.pointer none,.pointer none]) λv d e a=>?_;refine hR v _ e (zD _) ⟨λ_=>none,λ_=>none,a,?_,?_,?_,?_,zD _,?_,?_,?_,?_,?_⟩<;>intros<;>simp_all
theorem Ψ (h:kD σ F p M Lf ow){i:Nat}(hi:i<16){R:Option Addr->Hp->Prop}
 (hR:∀σ' M' q,Ext F σ σ'->M' i=some q->kD σ' (Grow F σ) p M' Lf ow->R (some ⟨q,0,none⟩) σ'):Ww.c (some ⟨p,1+i,none⟩) σ R:=by
 refine Ww.o ?_;unfold Ww.v;refine Jn.intro (aG (h.rM hi ?_));cases hM:M i with
 | some q=>exact cG rfl (aG (h.rM hi (by rw[hM];exact hR σ M q (Ext.refl _ _) hM (h.move (λ_ _ _=>rfl) λ_ _ C=>.inl C))))
 | none=>
  refine cJ rfl (nw (cs:=[.pointer none,.pointer none,.pointer none,.pointer none,.pointer none,.pointer none,.pointer none,.pointer none]) λG E x A=>aG ?_);have D:=h.hd.lt;refine(x.bZ h.hd id).s0 aE λy o2 u=>?_;have s:(Value.bool true::(List.range 16).map λi=>ptr (M i)).set (1+i) (.pointer (some ⟨σ.size,0,none⟩))=.bool true::(List.range 16).map λj=>ptr (fO M i (some σ.size) j):=by
   rw[Nat.add_comm,si,Ke]
   congr 1
   apply zw;intro j _;simp only[fO];split<;>rfl
  rw[s]at u;have r:∀{b:Nat} {cs:List Value},bX σ b cs->b≠p->bX y b cs:=λz w=>Ws o2 (x.bZ z id) w;have B:kD y (Grow F σ) p (fO M i (some σ.size)) Lf ow:=by
   refine⟨u,λj q e a=>?_,λj e a=>?_,λk q d a=>r (h.leaf k q d a) (h.fl k q d a).2,h.iV,.inl h.fp,λj q e a=>?_,λk q d a=>⟨.inl (h.fl k q d a).1,(h.fl k q d a).2⟩,λj k q e d m g=>?_,h.ll,λj k q e d a=>?_⟩
   ·by_cases hji:j=i
    ·subst hji;rw[ZN]at a;cases a;have w:=h.lZ j e hM;have:((List.range 8).map λk=>ptr (Lf (8*j+k)))=[.pointer none,.pointer none,.pointer none,.pointer none,.pointer none,.pointer none,.pointer none,.pointer none]:=by
      have:((List.range 8).map λk=>ptr (Lf (8*j+k)))=(List.range 8).map λ_=>Value.pointer none:=by
       apply zw;intro k d;rw[zU]at d;rw[w k d];rfl
      rw[this];rfl
     rw[this];exact Ws o2 A O
    ·rw[Qq _ _ hji]at a;exact r (h.jF j q e a) (h.fm j q e a).2
   ·by_cases hji:j=i
    ·subst hji;rw[ZN]at a;cases a
    ·rw[Qq _ _ hji]at a;exact h.lZ j e a
   ·by_cases hji:j=i
    ·subst hji;rw[ZN]at a;cases a;exact⟨.inr (zD _),O⟩
    ·rw[Qq _ _ hji]at a;exact⟨.inl (h.fm j q e a).1,(h.fm j q e a).2⟩
   ·by_cases hji:j=i
    ·by_cases hki:k=i
     ·omega
     ·subst hji;rw[ZN]at m;cases m;rw[Qq _ _ hki]at g;have:=(h.jF k _ d g).lt;omega
    ·rw[Qq _ _ hji]at m;by_cases hki:k=i
     ·subst hki;rw[ZN]at g;cases g;have:=(h.jF j _ e m).lt;omega
     ·rw[Qq _ _ hki]at g;exact h.mm j k q e d m g
   ·by_cases hji:j=i
    ·subst hji;rw[ZN]at a;cases a;intro hl;have:=(h.leaf k _ d hl).lt;omega
    ·rw[Qq _ _ hji]at a;exact h.ml j k q e d a
  refine aG (B.rM hi ?_);rw[ZN];exact hR y _ σ.size (x.to.trans (o2.ext.sub λb z=>z▸h.fp)) (ZN _ _ _) B
theorem Oy (h:kD σ F p M Lf ow){i j q:Nat}(hi:i<16)(hj:j<8)(hq:M i=some q){R:Option Addr->Hp->Prop}
 (hR:∀σ' L' r,Ext F σ σ'->L' (8*i+j)=some r->kD σ' (Grow F σ) p M L' ow->R (some ⟨r,0,none⟩) σ'):Wy.c (some ⟨q,j,none⟩) σ R:=by
 refine Wy.o ?_;unfold Wy.v;have V:8*i+j<128:=by omega
 refine Jn.intro (aG (h.rL hi hq hj ?_));cases hL:Lf (8*i+j)with
 | some r=>exact cG rfl (aG (h.rL hi hq hj (by rw[hL];exact hR σ Lf r (Ext.refl _ _) hL (h.move (λ_ _ _=>rfl) λ_ _ G=>.inl G))))
 | none=>
  refine cJ rfl (nw (cs:=[.int .i64 0,.int .i64 0,.int .i64 0,.int .i64 0,.int .i64 0,.int .i64 0,.int .i64 0,.int .i64 0]) λX W J P=>aG ?_);have Q:=h.jF i q hi hq;have U:=Q.lt;have G:=h.fm i q hi hq;refine(J.bZ Q id).s0 aE λL o2 z=>?_;have y:∀{b:Nat} {cs:List Value},bX σ b cs->b≠q->bX L b cs:=λN H=>Ws o2 (J.bZ N id) H;have S:kD L (Grow F σ) p M (fO Lf (8*i+j) (some σ.size)) ow:=by
   refine⟨y h.hd (Ne.symm G.2),λm x g d=>?_,λm g d C K=>?_,λk r a s=>?_,λk a s=>?_,.inl h.fp,λm x g d=>⟨.inl (h.fm m x g d).1,(h.fm m x g d).2⟩,λk r a s=>?_,h.mm,λk E r B A w u=>?_,λm k x g a d=>?_⟩
   ·by_cases hii:m=i
    ·subst hii;rw[hq]at d;cases d;rw[Ke]at z;have:((List.range 8).map (fO (λj=>ptr (Lf (8*m+j))) j (.pointer (some ⟨σ.size,0,none⟩))))=(List.range 8).map λk=>ptr (fO Lf (8*m+j) (some σ.size) (8*m+k)):=by
      apply zw;intro k _;simp only[fO];by_cases hkj:k=j
      ·subst hkj;simp[ptr]
      ·have:¬8*m+k=8*m+j:=by omega
       simp[hkj,this]
     rw[this]at z;exact z
    ·have D:x≠q:=λe=>by subst e;exact hii (h.mm m i x g hi d hq)
     have:=y (h.jF m x g d) D;have e:((List.range 8).map λk=>ptr (fO Lf (8*i+j) (some σ.size) (8*m+k)))=(List.range 8).map λk=>ptr (Lf (8*m+k)):=by
      apply zw;intro k a;rw[zU]at a;rw[Qq _ _ O]
     rw[e];exact this
   ·have D:m≠i:=λe=>by subst e;rw[hq]at d;cases d
    rw[Qq _ _ O];exact h.lZ m g d C K
   ·by_cases hkk:k=8*i+j
    ·subst hkk;rw[ZN]at s;cases s;have H:=h.iV _ V hL;have:((List.range 8).map λC=>Value.int .i64 ((ow (8*(8*i+j)+C):Nat):Int))=[.int .i64 0,.int .i64 0,.int .i64 0,.int .i64 0,.int .i64 0,.int .i64 0,.int .i64 0,.int .i64 0]:=by
      have:((List.range 8).map λC=>Value.int .i64 ((ow (8*(8*i+j)+C):Nat):Int))=(List.range 8).map λ_=>Value.int .i64 0:=by
       apply zw;intro k a;rw[zU]at a;rw[H k a];rfl
      rw[this];rfl
     rw[this];exact Ws o2 P O
    ·rw[Qq _ _ hkk]at s;exact y (h.leaf k r a s) λe=>by subst e;exact h.ml i k r hi a hq s
   ·by_cases hkk:k=8*i+j
    ·subst hkk;rw[ZN]at s;cases s
    ·rw[Qq _ _ hkk]at s;exact h.iV k a s
   ·by_cases hkk:k=8*i+j
    ·subst hkk;rw[ZN]at s;cases s;have:=h.hd.lt;exact⟨.inr (zD _),O⟩
    ·rw[Qq _ _ hkk]at s;exact⟨.inl (h.fl k r a s).1,(h.fl k r a s).2⟩
   ·by_cases e1':k=8*i+j
    ·by_cases e2':E=8*i+j
     ·omega
     ·subst e1';rw[ZN]at w;cases w;rw[Qq _ _ e2']at u;have:=(h.leaf E _ A u).lt;omega
    ·rw[Qq _ _ e1']at w;by_cases e2':E=8*i+j
     ·subst e2';rw[ZN]at u;cases u;have:=(h.leaf k _ B w).lt;omega
     ·rw[Qq _ _ e2']at u;exact h.ll k E r B A w u
   ·by_cases hkk:k=8*i+j
    ·subst hkk;rw[ZN];intro e;cases e;have:=(h.jF m _ g d).lt;omega
    ·rw[Qq _ _ hkk];exact h.ml m k x g a d
  refine aG (S.rL hi hq hj ?_);rw[ZN];exact hR L _ σ.size (J.to.trans (o2.ext.sub λb N=>N▸G.1)) (ZN _ _ _) S
theorem Wlh (h:kD σ F p M Lf ow){k r j no:Nat}(hk:k<128)(hr:Lf k=some r)(hj:j<8){σ':Hp}(ho:QC σ σ' r)(hb:bX σ' r (((List.range 8).map λj=>Value.int .i64 ((ow (8*k+j):Nat):Int)).set j (.int .i64 (no:Int)))) :
 kD σ' F p M Lf (fO ow (8*k+j) no):=by
 refine⟨Ws ho h.hd (Ne.symm (h.fl k r hk hr).2),λi q y x=>Ws ho (h.jF i q y x) λe=>by subst e;exact h.ml i k q y hk x hr,h.lZ,λd u g b=>?_,λd g b s w=>?_,h.fp,h.fm,h.fl,h.mm,h.ll,h.ml⟩
 ·by_cases hkk:d=k
  ·subst hkk;rw[hr]at b;cases b;rw[Ke]at hb;have:((List.range 8).map (fO (λj=>Value.int .i64 ((ow (8*d+j):Nat):Int)) j (.int .i64 (no:Int))))=(List.range 8).map λs=>Value.int .i64 ((fO ow (8*d+j) no (8*d+s):Nat):Int):=by
    apply zw;intro a _;simp only[fO];by_cases haj:a=j
    ·subst haj;simp
    ·have:¬8*d+a=8*d+j:=by omega
     simp[haj,this]
   rw[this]at hb;exact hb
  ·have m:u≠r:=λe=>by subst e;exact hkk (h.ll d k u g hk b hr)
   have:=Ws ho (h.leaf d u g b) m;have e:((List.range 8).map λa=>Value.int .i64 ((fO ow (8*k+j) no (8*d+a):Nat):Int))=(List.range 8).map λa=>Value.int .i64 ((ow (8*d+a):Nat):Int):=by
    apply zw;intro a ha;rw[zU]at ha;rw[Qq _ _ O]
   rw[e];exact this
 ·have m:d≠k:=λe=>by subst e;rw[hr]at b;cases b
  rw[Qq _ _ O];exact h.iV d g b s w
theorem Td (h:kD σ F p M Lf ow){i j q:Nat}(hi:i<16)(hj:j<8)(hq:M i=some q)(hz:∀a,a<8->ow (8*(8*i+j)+a)=0){σ':Hp}(ho:QC σ σ' q)(hb:bX σ' q (((List.range 8).map λj=>ptr (Lf (8*i+j))).set j (.pointer none))) :
 kD σ' F p M (fO Lf (8*i+j) none) ow:=by
 have G:=h.fm i q hi hq;refine⟨Ws ho h.hd (Ne.symm G.2),λd y m b=>?_,λd m b E A=>?_,λk r x g=>?_,λk x g=>?_,h.fp,h.fm,λk r x g=>?_,h.mm,λk D r B z u s=>?_,λd k y m w b=>?_⟩
 ·by_cases hii:d=i
  ·subst hii;rw[hq]at b;cases b;rw[Ke]at hb;have:((List.range 8).map (fO (λj=>ptr (Lf (8*d+j))) j (.pointer none)))=(List.range 8).map λk=>ptr (fO Lf (8*d+j) none (8*d+k)):=by
    apply zw;intro k _;simp only[fO];by_cases hkj:k=j
    ·subst hkj;simp[ptr]
    ·have:¬8*d+k=8*d+j:=by omega
     simp[hkj,this]
   rw[this]at hb;exact hb
  ·have C:y≠q:=λe=>by subst e;exact hii (h.mm d i y m hi b hq)
   have:=Ws ho (h.jF d y m b) C;have e:((List.range 8).map λk=>ptr (fO Lf (8*i+j) none (8*d+k)))=(List.range 8).map λk=>ptr (Lf (8*d+k)):=by
    apply zw;intro k w;rw[zU]at w;rw[Qq _ _ O]
   rw[e];exact this
 ·simp only[fO];split
  ·rfl
  ·exact h.lZ d m b E A
 ·by_cases hkk:k=8*i+j
  ·subst hkk;rw[ZN]at g;cases g
  ·rw[Qq _ _ hkk]at g;exact Ws ho (h.leaf k r x g) λe=>by subst e;exact h.ml i k r hi x hq g
 ·by_cases hkk:k=8*i+j
  ·subst hkk;exact hz
  ·rw[Qq _ _ hkk]at g;exact h.iV k x g
 ·by_cases hkk:k=8*i+j
  ·subst hkk;rw[ZN]at g;cases g
  ·rw[Qq _ _ hkk]at g;exact h.fl k r x g
 ·by_cases e1':k=8*i+j
  ·subst e1';rw[ZN]at u;cases u
  ·rw[Qq _ _ e1']at u;by_cases e2':D=8*i+j
   ·subst e2';rw[ZN]at s;cases s
   ·rw[Qq _ _ e2']at s;exact h.ll k D r B z u s
 ·by_cases hkk:k=8*i+j
  ·subst hkk;rw[ZN];intro e;cases e
  ·rw[Qq _ _ hkk];exact h.ml d k y m w b
theorem LK (h:kD σ F p M Lf ow){i:Nat}(hi:i<16)(hz:∀j,j<8->Lf (8*i+j)=none){σ':Hp}(ho:QC σ σ' p)(hb:bX σ' p ((Value.bool true::(List.range 16).map λi=>ptr (M i)).set (1+i) (.pointer none))) :
 kD σ' F p (fO M i none) Lf ow:=by
 have m:(Value.bool true::(List.range 16).map λi=>ptr (M i)).set (1+i) (.pointer none)=.bool true::(List.range 16).map λj=>ptr (fO M i none j):=by
  rw[Nat.add_comm,si,Ke]
  congr 1
  apply zw;intro j _;simp only[fO];split<;>rfl
 rw[m]at hb;have e:∀{j q},fO M i none j=some q->M j=some q:=λ{j q} d=>by
  by_cases hji:j=i
  ·subst hji;rw[ZN]at d;cases d
  ·rwa [Qq _ _ hji]at d
 refine⟨hb,λj q g d=>Ws ho (h.jF j q g (e d)) (h.fm j q g (e d)).2,λj g d=>?_,λk q r d=>Ws ho (h.leaf k q r d) (h.fl k q r d).2,h.iV,h.fp,λj q g d=>h.fm j q g (e d),h.fl,λa b q s hb w u=>h.mm a b q s hb (e w) (e u),h.ll,λa k q s r d=>h.ml a k q s r (e d)⟩;by_cases hji:j=i
 ·subst hji;exact hz
 ·rw[Qq _ _ hji]at d;exact h.lZ j g d
theorem T6 (h:jB σ F p ow){x no:Nat}(hx:x<1024){R:aP}(hR:∀σ',Ext F σ σ'->jB σ' (Grow F σ) p (fO ow x no)->R σ'):Zo.c (aW p) (x:Int) (no:Int) σ R:=by
 refine Zo.o ?_;unfold Zo.v;obtain⟨M,Lf,h⟩:=h;have N:((x:Int).tdiv 8)=((x/8:Nat):Int):=by rw[YK O];simp
 have t2:(((x/8:Nat):Int).tdiv 8)=((x/8/8:Nat):Int):=by rw[YK O];simp
 have t3:(((x/8:Nat):Int).tmod 8)=((x/8%8:Nat):Int):=by rw[Q9 O];simp
 have t4:((x:Int).tmod 8)=((x%8:Nat):Int):=by rw[Q9 O];simp
 have hk:8*(x/8/8)+x/8%8=x/8:=by omega
 have hk2:8*(x/8)+x%8=x:=by omega
 refine nz aB (cA N O (nz aB (cA t2 O (aG ?_))));refine rl O ?_;rw[add_lit,add_lit,zG,oy];refine Ψ h O λX M1 q e1 K h1=>?_;refine nz aB (cA N O (nz aB (aG ?_)));rw[t3];refine rl O ?_;rw[add_lit,zG,oy];refine Oy h1 O O K λv2 L2 r e2 C h2=>?_;rw[hk]at C;have e02:Ext F σ v2:=e1.iD e2;refine nz aB (aG ?_);rw[t4];refine rl O ?_;rw[add_lit,zG,oy];have u:x/8<128:=by omega
 refine(h2.leaf _ r u C).s0 aE λv3 o3 b3=>?_;have z:=Wlh h2 u C O o3 b3;rw[hk2]at z;have a:∀b,Grow (Grow F σ) X b->Grow F σ b:=λb s=>by
  rcases s with h|h
  ·exact h
  ·exact .inr (zI e1.1 h)
 have D:Ext F σ v3:=e02.fF o3.ext λb s=>by subst s;exact a _ (h2.fl _ _ u C).1
 have tail:∀v L4,Ext F σ v->kD v (Grow (Grow F σ) X) p M1 L4 (fO ow x no) →
  (bS (some ⟨q,0,none⟩) λe=>fW (e.add 0) v λV=>fW (e.add 1) v λH=>fW (e.add 2) v λE=>fW (e.add 3) v λB=>fW (e.add 4) v λG=>fW (e.add 5) v λJ=>fW (e.add 6) v λA=>fW (e.add 7) v λL=>
   If (V.isNone&&(H.isNone&&(E.isNone&&(B.isNone&&(G.isNone&&(J.isNone&&(A.isNone&&(L.isNone&&true)))))))) (Nz 8<|Ar .i64 ((x:Int).tdiv 8) λP=>Nz 8<|Ar .i64 (P.tdiv 8) λt48=>bS (some ⟨p,0,none⟩) λa49=>oF (a49.add 1) 16 t48 1 λZ=>dG Z (.pointer none) v λY=>R Y) (R v)):=by
  intro v L4 ev h4;have m:=h4.jF _ q O K;have g:∀j,j<8->((List.range 8).map λj=>ptr (L4 (8*(x/8/8)+j)))[0+j]?=some (.pointer ((L4 (8*(x/8/8)+j)).map λq=>⟨q,0,none⟩)):=λj y=>by rw[zG,Ki _ y];rfl
  refine aG (m.rP (g 0 O) (m.rP (g 1 O) (m.rP (g 2 O) (m.rP (g 3 O) (m.rP (g 4 O) (m.rP (g 5 O) (m.rP (g 6 O) (m.rP (g 7 O) ?_))))))));have fin:∀w,Ext F σ w->jB w (Grow (Grow F σ) X) p (fO ow x no)->R w:=λw ew hw=>hR w ew (jB.loc.mono hw λb _ s=>a b s);refine cU (λi=>?_) λ_=>fin v ev ⟨_,_,h4⟩;have S:∀j,j<8->L4 (8*(x/8/8)+j)=none:=by
   simp only[Option.isNone_map,uq,zF,Option.isNone_iff_eq_none]at i;intro j y;obtain⟨a0,a1,Q,W,U,a5,a6,a7⟩:=i
   match j,y with
   | 0,_=>exact a0
   | 1,_=>exact a1
   | 2,_=>exact Q
   | 3,_=>exact W
   | 4,_=>exact U
   | 5,_=>exact a5
   | 6,_=>exact a6
   | 7,_=>exact a7
  refine nz aB (cA N O (nz aB (cA t2 O (aG ?_))));refine rl O ?_;rw[add_lit,add_lit,zG,oy];refine h4.hd.s0 aE λY o4 b4=>fin Y (ev.fF o4.ext λb s=>by subst s;exact a _ h4.fp) ⟨_,_,LK h4 O S o4 b4⟩
 refine Jn.intro (aG ?_);have d:=z.leaf _ r u C;have g:∀j,j<8->((List.range 8).map λj=>Value.int .i64 ((fO ow x no (8*(x/8)+j):Nat):Int))[0+j]?=some (.int .i64 ((fO ow x no (8*(x/8)+j):Nat):Int)):=λj y=>by rw[zG,Ki _ y]
 refine d.rI (g 0 O) (d.rI (g 1 O) (d.rI (g 2 O) (d.rI (g 3 O) (d.rI (g 4 O) (d.rI (g 5 O) (d.rI (g 6 O) (d.rI (g 7 O) ?_)))))));refine cU (λi=>?_) λ_=>tail v3 L2 D z;have S:∀j,j<8->fO ow x no (8*(8*(x/8/8)+x/8%8)+j)=0:=by
  rw[hk];simp only[vo,uq,zF,zZ]at i;intro j y;obtain⟨a0,a1,Q,W,U,a5,a6,a7⟩:=i
  match j,y with
  | 0,_=>exact a0
  | 1,_=>exact a1
  | 2,_=>exact Q
  | 3,_=>exact W
  | 4,_=>exact U
  | 5,_=>exact a5
  | 6,_=>exact a6
  | 7,_=>exact a7
 refine nz aB (cA N O (nz aB (aG ?_)));rw[t3];refine rl O ?_;rw[add_lit,zG,oy];have m:=z.jF _ q O K;refine m.s0 aE λv5 o5 b5=>?_;exact tail v5 _ (D.fF o5.ext λb s=>by subst s;exact a _ (z.fm _ _ O K).1) (Td z O O K S o5 b5)
def j0 (ow:Nat->Nat)(a m no:Nat):Nat->Nat:=if Zf 1024 a m then λp=>if a<=p/\p<a+m then no else ow p else ow
def vz (a m:Int):Int:=if Zf 1024 a m then 0 else 1
theorem JA (h:jB σ F p ow)(a m:Int)(ha : -1000000000000<=a)(ha2:a<=1000000000000)(no:Nat){R:aN}(h1:Zf 1024 a m=false->R 1 σ)
 (hR:∀x y:Nat,a=x->m=y->1<=y->x+y<=1024->∀σ',Ext F σ σ'->jB σ' (Grow F σ) p (j0 ow x y no)->R 0 σ'):YY.c (aW p) a m (no:Int) σ R:=by
 refine YY.o ?_;unfold YY.v;have d:¬(0<=a/\1<=m/\m<=1024-a)->R 1 σ:=λs=>h1 (by simp only[Zf,←uX];exact zh s);refine Dp h (cG rfl (bY.intro (cI (λD=>bY.intro (cJ rfl (bY.intro (cJ rfl (cJ rfl (d O)))))) λD=>?_)));refine bY.intro (cI (λA=>bY.intro (cJ rfl (cJ rfl (d O)))) λA=>?_);refine bY.intro (cI (λG=>cJ rfl (d O)) λG=>ar O O (cI (λC=>d O) λC=>?_));obtain⟨x,rfl⟩:=zk (show 0<=a by omega);obtain⟨y,rfl⟩:=zk (show 0<=m by omega);have g:Zf 1024 (x:Int) (y:Int)=true:=by simp only[Zf,zF,zT];omega
 refine ZU (a:=bN) (λ(t:Int) v=>∃i:Nat,t=((x+i:Nat):Int)/\i<=y/\Ext F σ v/\jB v (Grow F σ) p (λz=>if x<=z/\z<x+i then no else ow z)) (λt _=>x+y-t.toNat) ⟨0,rfl,O,Ext.refl _ _,?_⟩ ?_
 ·have:(λz=>if x<=z/\z<x+0 then no else ow z)=ow:=by
   funext z;rw[zA O]
  rw[this];exact jB.loc.mono h λb _ j=>.inl j
 rintro t v ⟨i,rfl,H,e,r⟩;refine cA (m:=x+y) O O (cI (λB=>?_) λE=>?_)
 ·refine T6 r O λJ u w=>cA (m:=x+(i+1)) O O ⟨⟨i+1,rfl,O,e.iD u,?_⟩,O⟩;refine jB.congr (jB.loc.mono w λb _ j=>?_) λz K=>?_
  ·rcases j with h|h
   ·exact h
   ·exact .inr (zI e.1 h)
  ·simp only[fO];by_cases hzi:z=x+i
   ·subst hzi;rw[zB rfl,zB O]
   ·rw[zA hzi];by_cases hin:x<=z/\z<x+i
    ·rw[zB hin,zB O]
    ·rw[zA hin,zA O]
 ·have:i=y:=by omega
  subst this;refine hR x i rfl rfl O O v e ?_;unfold j0;rw[g];exact r
theorem L8 (h:jB σ F p ow)(a m:Nat)(ha:a<=1000000){no:Nat}(hno:1<=no)(hno2:no<=1000){R:aN}(hR:∀σ',Ext F σ σ'->jB σ' (Grow F σ) p (j0 ow a m no)->R (vz a m) σ'):Yc.c (aW p) a m (no:Int) σ R:=by
 refine Yc.o ?_;unfold Yc.v;refine Dp h (bY.intro (cJ rfl (bY.intro (fG O (fG O ?_)))));refine JA h a m O O no (λj=>?_) λx y u w A z σ' e s=>?_
 ·have:=hR σ (Ext.refl _ _) (by unfold j0;rw[j];exact jB.loc.mono h λb _ r=>.inl r);unfold vz at this;rw[j]at this;exact this
 ·have d:a=x:=by omega
  have i:m=y:=by omega
  subst d;subst i;have g:Zf 1024 (a:Int) (m:Int)=true:=by simp only[Zf,zF,zT];omega
  have:=hR σ' e s;unfold vz at this;rw[g]at this;exact this
theorem LI (h:jB σ F p ow)(a m:Nat)(ha:a<=1000000){R:aN}(hR:∀σ',Ext F σ σ'->jB σ' (Grow F σ) p (j0 ow a m 0)->R (vz a m) σ'):XV.c (aW p) a m σ R:=by
 refine XV.o ?_;unfold XV.v;refine JA h a m O O 0 (λj=>?_) λx y u w A z σ' e s=>?_
 ·have:=hR σ (Ext.refl _ _) (by unfold j0;rw[j];exact jB.loc.mono h λb _ r=>.inl r);unfold vz at this;rw[j]at this;exact this
 ·have d:a=x:=by omega
  have i:m=y:=by omega
  subst d;subst i;have g:Zf 1024 (a:Int) (m:Int)=true:=by simp only[Zf,zF,zT];omega
  have:=hR σ' e s;unfold vz at this;rw[g]at this;exact this
end Go.Ar
namespace Go.Proofs
open Go.Shelf
def Tryz.iN:Go.Shelf.Ren:=⟨fun|7=>279|10=>299|n=>n,fun|23=>219|26=>3|3=>4|28=>117|0=>0|27=>116|33=>152|4=>4|n=>n,fun|n=>n⟩
theorem Tryz.nt:Go.Proofs.SlLaysZI.n7 Tryz.prog Tryz.iN:={
 mixed:=by kernel_rfl
 f7:=⟨Tryz.f279.name,by decide,Tryz.func279.trans (congrArg some (by kernel_rfl))⟩
 f10:=⟨Tryz.f299.name,by decide,Tryz.func299.trans (congrArg some (by kernel_rfl))⟩
 t0:=Tryz.underlying0
 a0:=Tryz.isAgg0
 z0:=Tryz.sizeOf0
 v0:=Tryz.zeroValue0
 t4:=Tryz.underlying4
 a4:=Tryz.isAgg4
 z4:=Tryz.sizeOf4
 v4:=Tryz.zeroValue4
 t23:=Tryz.underlying219
 a23:=Tryz.isAgg219
 z23:=Tryz.sizeOf219
 v23:=Tryz.zeroValue219
 t26:=Tryz.underlying3
 a26:=Tryz.isAgg3
 z26:=Tryz.sizeOf3
 v26:=Tryz.zeroValue3
 t27:=Tryz.underlying116
 a27:=Tryz.isAgg116
 z27:=Tryz.sizeOf116
 v27:=Tryz.zeroValue116
 t28:=Tryz.underlying117
 a28:=Tryz.isAgg117
 z28:=Tryz.sizeOf117
 v28:=Tryz.zeroValue117
 t33:=Tryz.underlying152
 a33:=Tryz.isAgg152
 z33:=Tryz.sizeOf152
 v33:=Tryz.zeroValue152}
def Tryz.jV:Go.Shelf.Ren:=⟨fun|6=>66|8=>93|9=>94|11=>127|13=>129|12=>128|23=>167|24=>168|14=>158|15=>159|16=>160|17=>161|18=>162|19=>163|20=>164|21=>165|22=>166|25=>205|26=>206|27=>207|28=>208|29=>209|30=>210|31=>249|n=>n,fun|26=>3|28=>117|24=>69|0=>0|3=>3|37=>199|48=>255|50=>257|4=>4|40=>248|39=>247|45=>252|5=>5|9=>9|51=>299|55=>105|57=>335|58=>336|33=>152|n=>n,fun|n=>n⟩
theorem Tryz.rE:Go.Proofs.SlLaysZI.n6 Tryz.prog Tryz.jV:={
 mixed:=by kernel_rfl
 f6:=⟨Tryz.f66.name,by decide,Tryz.func66.trans (congrArg some (by kernel_rfl))⟩
 f8:=⟨Tryz.f93.name,by decide,Tryz.func93.trans (congrArg some (by kernel_rfl))⟩
 f11:=⟨Tryz.f127.name,by decide,Tryz.func127.trans (congrArg some (by kernel_rfl))⟩
 t0:=Tryz.underlying0
 a0:=Tryz.isAgg0
 z0:=Tryz.sizeOf0
 v0:=Tryz.zeroValue0
 t24:=Tryz.underlying69
 a24:=Tryz.isAgg69
 z24:=Tryz.sizeOf69
 v24:=Tryz.zeroValue69
 t26:=Tryz.underlying3
 a26:=Tryz.isAgg3
 z26:=Tryz.sizeOf3
 v26:=Tryz.zeroValue3
 t28:=Tryz.underlying117
 a28:=Tryz.isAgg117
 z28:=Tryz.sizeOf117
 v28:=Tryz.zeroValue117
 i26:=by kernel_rfl}
def Tryz.om:Go.Shelf.Ren:=⟨fun|8=>93|11=>127|n=>n,fun|26=>3|28=>117|24=>69|0=>0|33=>152|4=>4|n=>n,fun|n=>n⟩
theorem Tryz.wx:Go.Proofs.SlLaysZI.n8 Tryz.prog Tryz.om:={
 mixed:=by kernel_rfl
 f8:=⟨Tryz.f93.name,by decide,Tryz.func93.trans (congrArg some (by kernel_rfl))⟩
 f11:=⟨Tryz.f127.name,by decide,Tryz.func127.trans (congrArg some (by kernel_rfl))⟩
 t0:=Tryz.underlying0
 a0:=Tryz.isAgg0
 z0:=Tryz.sizeOf0
 v0:=Tryz.zeroValue0
 t24:=Tryz.underlying69
 a24:=Tryz.isAgg69
 z24:=Tryz.sizeOf69
 v24:=Tryz.zeroValue69
 t26:=Tryz.underlying3
 a26:=Tryz.isAgg3
 z26:=Tryz.sizeOf3
 v26:=Tryz.zeroValue3
 t28:=Tryz.underlying117
 a28:=Tryz.isAgg117
 z28:=Tryz.sizeOf117
 v28:=Tryz.zeroValue117
 i26:=by kernel_rfl}
def Tryz.oz:Go.Shelf.Ren:=⟨fun|5=>94|8=>129|7=>128|19=>167|20=>168|10=>158|11=>159|12=>160|13=>161|14=>162|15=>163|16=>164|17=>165|18=>166|30=>205|31=>206|32=>207|33=>208|34=>209|35=>210|40=>249|n=>n,fun|23=>69|25=>3|3=>3|32=>199|22=>69|0=>0|44=>255|46=>257|4=>4|36=>248|35=>247|41=>252|5=>5|9=>9|53=>299|57=>105|63=>335|64=>336|n=>n,fun|n=>n⟩
theorem Tryz.pc:Go.Proofs.SlLaysM.n5 Tryz.prog Tryz.oz:={
 mixed:=by kernel_rfl
 f5:=⟨Tryz.f94.name,by decide,Tryz.func94.trans (congrArg some (by kernel_rfl))⟩
 f7:=⟨Tryz.f128.name,by decide,Tryz.func128.trans (congrArg some (by kernel_rfl))⟩
 f8:=Tryz.func129.trans (congrArg some (by kernel_rfl))
 f10:=⟨Tryz.f158.name,by decide,Tryz.func158.trans (congrArg some (by kernel_rfl))⟩
 f11:=⟨Tryz.f159.name,by decide,Tryz.func159.trans (congrArg some (by kernel_rfl))⟩
 f12:=⟨Tryz.f160.name,by decide,Tryz.func160.trans (congrArg some (by kernel_rfl))⟩
 f13:=⟨Tryz.f161.name,by decide,Tryz.func161.trans (congrArg some (by kernel_rfl))⟩
 f14:=⟨Tryz.f162.name,by decide,Tryz.func162.trans (congrArg some (by kernel_rfl))⟩
 f15:=⟨Tryz.f163.name,by decide,Tryz.func163.trans (congrArg some (by kernel_rfl))⟩
 f16:=⟨Tryz.f164.name,by decide,Tryz.func164.trans (congrArg some (by kernel_rfl))⟩
 f17:=⟨Tryz.f165.name,by decide,Tryz.func165.trans (congrArg some (by kernel_rfl))⟩
 f18:=⟨Tryz.f166.name,by decide,Tryz.func166.trans (congrArg some (by kernel_rfl))⟩
 f19:=Tryz.func167.trans (congrArg some (by kernel_rfl))
 f20:=Tryz.func168.trans (congrArg some (by kernel_rfl))
 f30:=⟨Tryz.f205.name,by decide,Tryz.func205.trans (congrArg some (by kernel_rfl))⟩
 f31:=Tryz.func206.trans (congrArg some (by kernel_rfl))
 f32:=Tryz.func207.trans (congrArg some (by kernel_rfl))
 f33:=⟨Tryz.f208.name,by decide,Tryz.func208.trans (congrArg some (by kernel_rfl))⟩
 f34:=⟨Tryz.f209.name,by decide,Tryz.func209.trans (congrArg some (by kernel_rfl))⟩
 f35:=⟨Tryz.f210.name,by decide,Tryz.func210.trans (congrArg some (by kernel_rfl))⟩
 f40:=⟨Tryz.f249.name,by decide,Tryz.func249.trans (congrArg some (by kernel_rfl))⟩
 t0:=Tryz.underlying0
 a0:=Tryz.isAgg0
 z0:=Tryz.sizeOf0
 v0:=Tryz.zeroValue0
 t3:=Tryz.underlying3
 a3:=Tryz.isAgg3
 z3:=Tryz.sizeOf3
 v3:=Tryz.zeroValue3
 t4:=Tryz.underlying4
 a4:=Tryz.isAgg4
 z4:=Tryz.sizeOf4
 v4:=Tryz.zeroValue4
 t5:=Tryz.underlying5
 a5:=Tryz.isAgg5
 z5:=Tryz.sizeOf5
 v5:=Tryz.zeroValue5
 t9:=Tryz.underlying9
 a9:=Tryz.isAgg9
 z9:=Tryz.sizeOf9
 v9:=Tryz.zeroValue9
 t22:=Tryz.underlying69
 a22:=Tryz.isAgg69
 z22:=Tryz.sizeOf69
 v22:=Tryz.zeroValue69
 t23:=Tryz.underlying69
 a23:=Tryz.isAgg69
 z23:=Tryz.sizeOf69
 v23:=Tryz.zeroValue69
 t25:=Tryz.underlying3
 a25:=Tryz.isAgg3
 z25:=Tryz.sizeOf3
 v25:=Tryz.zeroValue3
 t32:=Tryz.underlying199
 a32:=Tryz.isAgg199
 z32:=Tryz.sizeOf199
 v32:=Tryz.zeroValue199
 t35:=Tryz.underlying247
 a35:=Tryz.isAgg247
 z35:=Tryz.sizeOf247
 v35:=Tryz.zeroValue247
 t36:=Tryz.underlying248
 a36:=Tryz.isAgg248
 z36:=Tryz.sizeOf248
 v36:=Tryz.zeroValue248
 t41:=Tryz.underlying252
 a41:=Tryz.isAgg252
 z41:=Tryz.sizeOf252
 v41:=Tryz.zeroValue252
 t44:=Tryz.underlying255
 a44:=Tryz.isAgg255
 z44:=Tryz.sizeOf255
 v44:=Tryz.zeroValue255
 t46:=Tryz.underlying257
 a46:=Tryz.isAgg257
 z46:=Tryz.sizeOf257
 v46:=Tryz.zeroValue257
 t53:=Tryz.underlying299
 a53:=Tryz.isAgg299
 z53:=Tryz.sizeOf299
 v53:=Tryz.zeroValue299
 t57:=Tryz.underlying105
 a57:=Tryz.isAgg105
 z57:=Tryz.sizeOf105
 v57:=Tryz.zeroValue105
 t63:=Tryz.underlying335
 a63:=Tryz.isAgg335
 z63:=Tryz.sizeOf335
 v63:=Tryz.zeroValue335
 t64:=Tryz.underlying336
 a64:=Tryz.isAgg336
 z64:=Tryz.sizeOf336
 v64:=Tryz.zeroValue336}
end Go.Proofs
namespace Go.Bu
open Go Go.Vc Go.Proofs Go.RowKit Go.Maps Go.Sort Go.Shelf
variable {σ:Hp}
def nJ (B:Nat)(h:Hp)(s:Sl)(xs:List Value):Prop:=
 s.len=xs.length/\(xs=[]/\s.a=none\/∃b cs,B<=b/\s.a=some ⟨b,0,none⟩/\bX h b cs/\∀j,j<xs.length->cs[j]?=xs[j]?)
theorem nJ.bU {B:Nat}{h h':Hp}{s:Sl}{xs:List Value}{F:Nat->Prop}(hs:nJ B h s xs)(e:Ext F h h')(hF:∀b,F b->b<B):nJ B h' s xs:=by
 refine⟨hs.1,hs.2.imp id ?_⟩;rintro⟨b,cs,hb,ha,hk,hc⟩;exact⟨b,cs,hb,ha,e.bZ hk (λa=>by have:=hF b a;omega),hc⟩
theorem nJ.mono {B B':Nat}{h:Hp}{s:Sl}{xs:List Value}(hs:nJ B h s xs)(hB:B'<=B):nJ B' h s xs:=by
 refine⟨hs.1,hs.2.imp id ?_⟩;rintro⟨b,cs,hb,ha,hk,hc⟩;exact⟨b,cs,O,ha,hk,hc⟩
theorem nJ.pK {B:Nat}{h:Hp}{s:Sl}{xs:List Int}(hs:nJ B h s (xs.map (Value.int .i64))){i:Nat}{x:Int}(hx:xs[i]?=some x){K:Int->Prop}(hK:K x) :
 Ix s.a s.len (i:Int) 1 λa=>fJ .i64 a h K:=by
 have d:i<xs.length:=(cQ.1 hx).1;rcases hs.2 with⟨h0,_⟩|⟨b,cs,_,ha,hb,hc⟩
 ·simp at h0;subst h0;simp at d
 ·rw[ha];refine ix O (by rw[hs.1];simp;omega) ?_;rw[add_lit];refine ox ?_ hK;rw[hb.cell];have:=hc i (by simpa using d);simpa[hx]using this
theorem Gi {w w':World}(h:Below w.heap.size w w'):bO w.heap w'.heap:=⟨h.size,λb a _=>h.block b a⟩
theorem Br {n:Nat}{w w':World}(h:Below n w w'):ZP w w':=⟨h.os,h.tape,h.output,h.size⟩
def vj:Nat:=Tryz.iN.f 10
def Jp:Nat:=Tryz.iN.t 23
theorem Rs (m:Option Nat){R:Fv->Hp->Prop}(hR:R ⟨vj,#[],#[.pointer (some ⟨σ.size,0,none⟩)]⟩ (σ.push (.cells #[.map m] Jp (0,0)))) :
 Qm.c m σ R:=by
 rintro w rfl;refine(callsIn_wide.1 (AnyZI.keys_in Tryz.nt Fence.wide 5 trivial rfl m w)).mono ?_;rintro e a ⟨rfl,rfl⟩;exact⟨⟨rfl,rfl,rfl,rU (by show _<(w.heap.push _).size;simp)⟩,[.func (.func vj) #[] #[.pointer (some ⟨w.heap.size,0,none⟩)]],rfl,⟨vj,#[],#[.pointer (some ⟨w.heap.size,0,none⟩)]⟩,rfl,hR⟩
def lS (x:Int):Prop:=-9223372036854775808<=x/\x<=9223372036854775807
theorem Ha {P:Program}{kt:Nat}(hk:P.underlying kt=some (.int .i64)){w:World}{m:Nat}{c:CK}{B:List (Int×c.T)}(h:dL w.heap m .i64 c B)(hb:∀x∈B,lS x.1)(hs:B.length<=1000000) :
 ∃D:DataW Unit,w.ownsMap P kt (λ_=>some (.nil,[])) m B.length D/\(intKeys D).Perm (B.map (·.1))/\Maps.size D=B.length:=by
 obtain⟨d,A,H,u,J,K,E⟩:=h;have i:d.size=B.length:=by simpa using congrArg List.length u
 have j:∀e∈d.toList,∃x:Int,e.key=.int .i64 x/\lS x:=by
  intro e hme;have:(e.key,e.val)∈d.toList.map (λe=>(e.key,e.val)):=ye hme;rw[u]at this;obtain⟨y,M,G⟩:=zC.1 this;simp only[Prod.mk.injEq]at G;exact⟨y.1,G.1.symm,hb y M⟩
 have wf:∀x:Int,lS x->(Lit.int .i64 x).wf=true:=by
  rintro x ⟨s,Q⟩;simp[Lit.wf,IntKind.min,IntKind.max,IntKind.bits,IntKind.signed];omega
 have r:∀e∈d.toList,∃x:Int,e.key=.int .i64 x/\Go.WideElems.rd P kt (λ_=>some ((.nil:DataW Unit),[])) e=some (.int .i64 x,.nil):=by
  intro e hme;obtain⟨x,g,L⟩:=j e hme;refine⟨x,g,?_⟩;simp[Go.WideElems.rd,keyOf,hk,g,mapKey,wf x L]
 refine⟨.map ((d.toList.map (Go.WideElems.rg P kt (λ_=>some (.nil,[])))).foldr DataW.insert []),⟨d,A,H,⟨?_,⟨λx g=>E x g,?_,?_⟩,λx g=>?_⟩,O,rfl⟩,?_,?_⟩
 ·have:1000000<=maxLen:=by unfold maxLen;omega
  omega
 ·exact K.imp (λh=>w8 h)
 ·have C:d.toList.map (·.key)=(B.map (·.1)).map (Value.int .i64):=by
   have:=congrArg (List.map Prod.fst) u;simpa[zm,Function.comp_def]using this
  rw[C];exact List.Pairwise.map _ (λa b (F:a≠b) z=>F (by simpa using z)) J
 ·obtain⟨R,_,s⟩:=r x g;exact⟨_,s⟩
 ·simp only[intKeys];refine((Go.WideShapes.sorted_perm _).map _).trans ?_;rw[zm];have:d.toList.map ((λp=>Go.intOf p.1)∘Go.WideElems.rg P kt (λ_=>some ((.nil:DataW Unit),[])))=B.map (·.1):=by
   have C:d.toList.map (·.key)=(B.map (·.1)).map (Value.int .i64):=by
    have:=congrArg (List.map Prod.fst) u;simpa[zm,Function.comp_def]using this
   have N:d.toList.map ((λp=>Go.intOf p.1)∘Go.WideElems.rg P kt (λ_=>some ((.nil:DataW Unit),[])))=(d.toList.map (·.key)).map (λv=>match v with | .int _ x=>x|_=>0):=by
    rw[zm];apply zw;intro e hme;obtain⟨x,g,s⟩:=r e hme;simp[Function.comp,Go.WideElems.rg,s,g,Go.intOf]
   rw[N,C,zm]
   conv=>rhs;rw[←wj (B.map (·.1))]
   rfl
  rw[this]
 ·simp only[Maps.size];rw[(Go.WideShapes.sorted_perm _).length_eq];simp[i]
theorem AG {w:World}{B e n:Nat}{v:Value}{xs:List Value}(h:w.ownsRow B e 1 v n xs):∃s:Sl,v=.slice s.a s.len s.cap/\nJ B w.heap s xs:=by
 obtain⟨b,h⟩:=h;rcases h with⟨rfl,rfl⟩|⟨g,cap,cur,rfl,hb,hg,_,_,hcs,ht⟩
 ·exact⟨⟨none,0,0⟩,rfl,by simp at b;simp[b],.inl ⟨by simpa using b,rfl⟩⟩
 ·refine⟨⟨some ⟨g,0,none⟩,n,cap⟩,rfl,by simp at b;simp[b],.inr ⟨g,cur.toList,hb,rfl,⟨e,by simpa using hg⟩,λj d=>?_⟩⟩;rw[←ht,zX,zB O]
theorem SJ {w:World}{c m:Nat}{B:List (Int×Bool)}(hc:cell w.heap ⟨c,0,none⟩=some (.map (some m)))(hm:dL w.heap m .i64 .b B)(hb:∀x∈B,lS x.1)(hs:B.length<=1000000)(n:Nat)(hn:1<=n) :
 SeqGives Fence.wide n Tryz.prog vj #[.pointer (some ⟨c,0,none⟩)] encZ (λss=>ss.Perm (B.map (·.1))) B.length w:=by
 obtain⟨D,i,j,d⟩:=Ha (P:=Tryz.prog) Tryz.nt.t26 hm hb hs;have a:c<w.heap.size:=by
  unfold cell at hc;split at hc
  ·rename_i h;exact(mF.1 h).1
  ·cases hc
 have:=AnyZI.keys_gives (ρ:=Tryz.iN) {Tryz.nt with} Fence.wide n trivial rfl hn c m B.length D w a hc i;intro l J W hW hJ hY h0;rw[d]at this;refine(this l J W hW hJ hY h0).mono ?_;rintro e W' ⟨p,ss,g,r⟩;exact⟨p,ss,g.trans j,r⟩
theorem EF (m:Nat):AnyZI.SortsIn Tryz.prog Tryz.jV Fence.wide m:=
 ⟨λbZ b cap g W e a d=>callsIn_wide.2 (AnyM.slices_Sort_int Tryz.pc bZ b cap g W e a d),
  λp cap W=>callsIn_wide.2 (AnyM.slices_Sort_int_none Tryz.pc p cap W)⟩
theorem Mb {c m:Nat}{B:List (Int×Bool)}(hc:cell σ ⟨c,0,none⟩=some (.map (some m)))(hm:dL σ m .i64 .b B)(hb:∀x∈B,lS x.1)(hs:B.length<=1000000){R:Sl->Hp->Prop}
 (hR:∀(s:Sl) (σ':Hp) (ss:List Int),bO σ σ'->ss.Perm (B.map (·.1))->nJ σ.size σ' s (ss.map (Value.int .i64))->R s σ') :
 Vr.c ⟨vj,#[],#[.pointer (some ⟨c,0,none⟩)]⟩ σ R:=by
 rintro w rfl;have i:=SJ hc hm hb hs 3 O;have j:B.length<=maxLen:=by unfold maxLen;omega
 have u:=AnyZI.collect_in Tryz.wx Fence.wide 5 trivial trivial rfl O vj #[.pointer (some ⟨c,0,none⟩)] trivial (Tryz.nt.f10.enters rfl) _ _ j O _ i;refine(callsIn_wide.1 u).mono ?_;rintro e z ⟨v,ss,rfl,y,d,r,g⟩;obtain⟨s,rfl,p⟩:=AG d;exact⟨Br g,[.slice s.a s.len s.cap],rfl,s,rfl,hR s _ ss (Gi g) y p⟩
end Go.Bu
namespace Go.Bu
open Go Go.Vc Go.Proofs
variable {σ:Hp}{p n sb:Nat}{S:Nat->Bool}{ms:List Nat}
theorem PN {B:Nat}{s:Sl}{xs:List Int}(hs:nJ B σ s (xs.map (Value.int .i64)))(hl:xs.length<1000000000){m:Int}(hm:m∈xs)(hle:∀y∈xs,m<=y){R:aN}(hR:R m σ):X3.c s σ R:=by
 refine X3.o ?_;unfold X3.v;have u:s.len=xs.length:=by simpa using hs.1
 have g:0<xs.length:=List.length_pos_of_mem hm;refine Jn.intro (fG O ?_);have w:xs[0]?=some xs[0]:=by simp[g]
 refine hs.pK (i:=0) w ?_;refine Ko (a:=bN) (bb:=bN) (λ(c t:Int) z=>∃k:Nat,t=(k:Int)/\k<=xs.length/\z=σ/\c∈xs/\∀(j:Nat) (y:Int),j<k->xs[j]?=some y->c<=y) (λ_ t _=>xs.length-t.toNat)
  ⟨1,rfl,O,rfl,zc _,λj y p d=>?_⟩ ?_
 ·have:j=0:=by omega
  subst this;rw[w]at d;cases d;omega
 rintro c t z ⟨k,rfl,G,rfl,x,b⟩;refine cI (λE=>?_) (λF=>?_)
 ·have r:k<xs.length:=by omega
  have A:xs[k]?=some xs[k]:=by simp[r]
  refine hs.pK A (cA (m:=k+1) O O ⟨⟨k+1,rfl,O,rfl,?_,λj y p d=>?_⟩,O⟩)
  ·split
   ·exact zc _
   ·exact x
  ·by_cases e:j=k
   ·subst e;rw[A]at d;cases d;split<;>omega
   ·have:=b j y O d;split<;>omega
 ·have:k=xs.length:=by omega
  subst this;obtain⟨j,p,e⟩:=uN hm;have D:=b j m p (by simp[p,e]);have C:=hle c x;have:c=m:=Int.le_antisymm D C;rw[this];exact hR
def Kc (n:Nat)(S:Nat->Bool)(k:Nat):List Nat:=((List.range n).filter (can S k)).map (· * 2^k)
theorem φ (hb:Bounded S n){k q:Nat}(hc:can S k q=true):q<n:=by
 have:=ZQ hb (ZM.1 hc).1;have a:=lb k;have b:q<=q*2^k:=Av _ a;omega
theorem QT (hb:Bounded S n){k x:Nat}:x∈Kc n S k↔∃q,x=q*2^k/\can S k q=true:=by
 simp only[Kc,zC,zH,zU];constructor
 ·rintro⟨q,⟨_,hc⟩,rfl⟩;exact⟨q,rfl,hc⟩
 ·rintro⟨q,rfl,hc⟩;exact⟨q,⟨φ hb hc,hc⟩,rfl⟩
theorem HG (n:Nat)(S:Nat->Bool)(k:Nat):(Kc n S k).Pairwise (· < ·):=by
 unfold Kc;refine List.Pairwise.map _ (λa b h=>Nat.mul_lt_mul_of_pos_right h (lb k)) ?_;exact List.Pairwise.sublist rO List.pairwise_lt_range
theorem GG (n:Nat)(S:Nat->Bool)(k:Nat):(Kc n S k).length=many n S k:=by
 simp[Kc,many,wq]
theorem O7 {k:Nat}{B:List (Int×Bool)}(hK:Keys S k B)(hn:(B.map (·.1)).Nodup)(hb:Bounded S n):(B.map (·.1)).Perm ((Kc n S k).map λ(x:Nat)=>(x:Int)):=by
 rw[wL hn]
 ·intro x;simp only[zC];constructor
  ·rintro⟨⟨x1,x2⟩,hm,rfl⟩;obtain⟨_,q,i,d⟩:=hK.1 x1 x2 hm;exact⟨_,(QT hb).2 ⟨q,rfl,d⟩,i.symm⟩
  ·rintro⟨y,hy,rfl⟩;obtain⟨q,rfl,d⟩:=(QT hb).1 hy;exact⟨_,hK.2 q d,rfl⟩
 ·refine List.Pairwise.map _ (λa b (g:a<b)=>?_) (HG n S k);intro e;have:a=b:=by exact_mod_cast e
  omega
theorem Wj6 {k:Nat}{B:List (Int×Bool)}(hK:Keys S k B)(hb:Bounded S n)(hn:n<=1024):∀x∈B,lS x.1:=by
 rintro⟨x,v⟩ hx;obtain⟨_,q,rfl,a⟩:=hK.1 x v hx;have:=ZQ hb (ZM.1 a).1;have:=lb k;constructor<;>simp only<;>omega
theorem T4 (h:BH σ p n S sb ms){k:Nat}(hk:ms.length<=k):Kc n S k=[]:=by
 rw[List.eq_nil_iff_forall_not_mem];intro x hx;obtain⟨q,_,a⟩:=(QT h.jC).1 hx;have:=h.fits (ZQ h.jC (ZM.1 a).1);omega
theorem R3 {h:Hp}{v:Value}{e:Nat}:cell (h.push (.cells #[v] e (0,0))) ⟨h.size,0,none⟩=some v:=by simp[cell]
theorem HP (h:Hp)(o:Obj):bO h (h.push o):=Ext.push _ _ _
def gE (a:Int):Bool:=(List.range 11).any λk=>a==((2^k:Nat):Int)
theorem LU:(List.range 1025).all (λa=>a==0||((a &&& (a-1))==0)==((List.range 11).any λk=>a==2^k))=true:=by decide +kernel
theorem Di {a:Nat}(h1:1<=a)(h2:a<=1024):((a &&& (a-1))==0)=((List.range 11).any λk=>a==2^k):=by
 have:=kN.1 LU a (zU.2 O);simp only[ot,zZ]at this;rcases this with h|h
 ·omega
 ·exact h
theorem C3 (a:Nat):gE (a:Int)=((List.range 11).any λk=>a==2^k):=by
 unfold gE
 congr 1
 funext k
 rw[nL];simp only[zZ];exact⟨λh=>by exact_mod_cast h,λh=>by exact_mod_cast h⟩
def fP (aF align:Int):Bool:=decide (1<=aF)&&(decide (aF<=1024)&&(decide (1<=align)&&(decide (align<=1024)&&gE align)))
def ZT (n:Nat)(S:Nat->Bool)(aF align:Nat):Nat->Option Nat
 | 0=>none
 | k+1=>match ZT n S aF align k with
  | some x=>some x
  | none=>if aF<=2^k/\align<=2^k then(Kc n S k).head? else none
def Zu (n:Nat)(S:Nat->Bool)(aF align:Nat):Option Nat:=ZT n S aF align 11
def jt (n:Nat)(S:Nat->Bool)(aF align:Int):Int:=if fP aF align then(match Zu n S aF.toNat align.toNat with|some _=>0|none=>6)else 1
def ju (n:Nat)(S:Nat->Bool)(aF align:Int):Nat:=if fP aF align then(match Zu n S aF.toNat align.toNat with|some x=>x|none=>0)else 0
def jz (n:Nat)(S:Nat->Bool)(aF align:Int):Nat->Bool:=if fP aF align then(match Zu n S aF.toNat align.toNat with|some x=>take S x (x+aF.toNat)|none=>S)else S
theorem LG {n:Nat}{S:Nat->Bool}{m a k x:Nat}(h:ZT n S m a k=some x):∀j,k<=j->ZT n S m a j=some x:=by
 intro j hj
 induction j with
 | zero=>
  have:k=0:=by omega
  subst this;exact h
 | succ j ih=>
  by_cases e:k=j+1
  ·subst e;exact h
  ·simp only[ZT,ih O]
theorem TA (h:BH σ p n S sb ms){m a:Nat}(hn:ZT n S m a ms.length=none):∀j,ms.length<=j->ZT n S m a j=none:=by
 intro j hj
 induction j with
 | zero=>
  have:ms.length=0:=by omega
  rw[this]at hn;exact hn
 | succ j ih=>
  by_cases e:ms.length=j+1
  ·rw[←e];exact hn
  ·simp only[ZT,ih O,T4 h (show ms.length<=j by omega)];simp
theorem MN {k:Nat}(hpos:0<many n S k):∃x rest,Kc n S k=x::rest:=by
 rw[←GG]at hpos
 match h:Kc n S k with
 | []=>rw[h]at hpos;simp at hpos
 | x::r=>exact⟨x,r,rfl⟩
theorem lT (h:BH σ p n S sb ms)(aF align:Int){R:Int->Int->Hp->Prop}
 (hR:∀σ',Ext (· ∈ ms) σ σ'->BH σ' p n (jz n S aF align) sb ms->R ((ju n S aF align:Nat):Int) (jt n S aF align) σ'):XY.c (aW p) aF align σ R:=by
 refine XY.o ?_;unfold XY.v;have hn2:=h.n2;have hl:=h.len;have G:fP aF align=false->R 0 1 σ:=λe=>by
  have:=hR σ (Ext.refl _ _);simp only[jz,ju,jt,e,zb,zy]at this;exact this h
 have d:¬(1<=aF/\aF<=1024/\1<=align/\align<=1024)->R 0 1 σ:=λhn=>G (by
  simp only[fP,←Bool.and_assoc,←uX];rw[zh];rfl;omega)
 refine yU h (cG rfl (bY.intro ?_));refine cI (λh1=>bY.intro (cJ rfl (bY.intro (cJ rfl (bY.intro (cJ rfl (cJ rfl (d O)))))))) λh1=>?_;refine bY.intro (cI (λh2=>bY.intro (cJ rfl (bY.intro (cJ rfl (cJ rfl (d O)))))) λh2=>?_);refine bY.intro (cI (λU=>bY.intro (cJ rfl (cJ rfl (d O)))) λU=>?_);refine bY.intro (cI (λh4=>cJ rfl (d O)) λh4=>?_);obtain⟨a,rfl⟩:=zk (show 0<=align by omega);obtain⟨m,rfl⟩:=zk (show 0<=aF by omega);refine cA (m:=a-1) O O ?_;rw[jy O O];have N:((((a &&& (a-1):Nat):Int)) != 0) = !gE (a:Int):=by
  rw[C3,←Di O O];simp only[bne,Bool.not_inj_iff];rw[nL];simp only[zZ];omega
 rw[N];cases Q:gE (a:Int)
 ·refine cJ rfl (G ?_);simp[fP,Q]
 refine cG rfl ?_;have M:fP (m:Int) (a:Int)=true:=by
  simp only[fP,Q,uq,zF,zT];omega
 refine aG (h.rB λcap=>?_);refine ZU (a:=bN) (λt F=>∃k:Nat,t=(k:Int)/\k<=ms.length/\F=σ/\ZT n S m a k=none) (λt _=>ms.length-t.toNat) ⟨0,rfl,O,rfl,rfl⟩ ?_;rintro t F ⟨k,rfl,hk,rfl,r⟩;refine cI (λab=>?_) (λad=>?_)
 ·simp only at ab;obtain⟨mm,Y⟩:=h.get (k:=k) O;refine h.rM Y (nr O (bY.intro ?_));have next:ZT n S m a (k+1)=none->Ar .i64 ((k:Int)+1) λJ=>(∃k:Nat,J=(k:Int)/\k<=ms.length/\F=F/\ZT n S m a k=none)/\ms.length-J.toNat<ms.length-(k:Int).toNat:=
   λH=>cA (m:=k+1) O O ⟨⟨k+1,rfl,O,rfl,H⟩,O⟩
  refine cI (λK=>?_) (λac=>cG rfl (next ?_))
  ·have j:m<=2^k/\a<=2^k:=by
    have:((if(a:Int)>(m:Int)then(a:Int)else(m:Int))<=((2^k:Nat):Int)):=K
    split at this<;>omega
   refine h.kU Y ?_;refine cI (λhpos=>?_) (λhz=>next ?_)
   ·have C:0<many n S k:=by omega
    obtain⟨x,rest,P⟩:=MN C;obtain⟨q,rfl,hc⟩:=(QT h.jC (k:=k) (x:=x)).1 (by rw[P];simp);have D:Zu n S m a=some (q*2^k):=by
     refine LG (k:=k+1) ?_ 11 O;simp only[ZT,r,zB j,P,List.head?_cons]
    have hfb:=ZQ h.jC (ZM.1 hc).1;obtain⟨B,V,A⟩:=h.maps k mm Y;have g:=Ln A V.nodup h.jC;have hle:B.length<=1024:=by
     rw[g];have:=vt (p:=can S k) (l:=List.range n);simp only[many,oK]at *;omega
    refine Rs _ ?_;have Z:=HP F (.cells #[.map (some mm)] Jp (0,0));refine Mb R3 (Z.gL V id) (Wj6 A h.jC h.n2) O λs σ' ss e2 Q X=>?_;have w:=Q.trans (O7 A V.nodup h.jC);have u:=w.length_eq;simp only[za]at u;rw[GG,←g]at u;refine PN X O (m:=((q*2^k:Nat):Int)) (w.mem_iff.2 (by rw[P];simp)) (λy hy=>?_) ?_
    ·have E:=w.mem_iff.1 hy;have b:=HG n S k;rw[P]at E b;simp only[zJ,zQ,zC]at E;rcases E with rfl|⟨z,hz,rfl⟩
     ·omega
     ·have:=(mM.1 b).1 z hz;omega
    ·have aa:=(h.bK Z).bK e2;refine Iu aa O (λy hy1 hy2=>KV hc (Qb.2 O)) λU e3 W=>?_;have:=hR U ((Z.to.trans e2.to).trans e3);simp only[jz,ju,jt,M,dC,D,zS]at this;exact this W
   ·simp only[ZT,r,zB j];have:Kc n S k=[]:=DV (by rw[GG];omega);rw[this];rfl
  ·have L:¬(m<=2^k/\a<=2^k):=by
    have:¬((if(a:Int)>(m:Int)then(a:Int)else(m:Int))<=((2^k:Nat):Int)):=ac
    split at this<;>omega
   simp only[ZT,r,zA L]
 ·simp only at ad;have:k=ms.length:=by omega
  subst this;have D:Zu n S m a=none:=TA h r 11 O;have:=hR F (Ext.refl _ _);simp only[jz,ju,jt,M,dC,D,zS]at this;exact this h
end Go.Bu
namespace Go.Ar
open Go.Bu
structure AR where
 n:Nat
 room:Nat
 tb:List bW
 S:Nat->Bool
 st:List Nat
 ow:Nat->Nat
 cC:List (List cH)
 cE:List fQ
 runs:List (Nat×Nat)
def AR.ck (A:AR)(k:Int):Bool:=decide (0<=k)&&decide (k<(A.tb.length:Int))
def V3 (A:AR)(r:Nat×Nat):AR:={A with ow:=j0 A.ow r.1 r.2 0,st:=VQ A.st r.1 r.2 2 [1],S:=QK A.n A.S r.1 r.2}
def VO (A:AR)(rs:List (Nat×Nat)):AR:=rs.foldl V3 A
def cY (sp:Sp)(size:Nat):Option Nat:=((List.range (sp.st.length/size)).map (· * size)).find? λs=>s != 0&&fC sp s size==0
def UR (st:List Nat)(a m:Nat):List Nat:=((List.range m).map (a + ·)).foldl (λl (h:Nat)=>jo l h) st
def UT (A:AR)(sp:Sp)(size:Nat):Option (AR×Sp):=match cY sp size with
 | none=>none
 | some s=>some ({A with st:=UR A.st (s/16) (size/16),S:=QK A.n A.S s size},gC sp s size)
def Q4 (m:Nat):Nat:=if m<=16 then 16 else if m<=32 then 32 else 64
def dV (A:AR)(x aF no:Nat):AR:={A with S:=take A.S x (x+aF),st:=VQ A.st x aF 1 [2,3],ow:=j0 A.ow x aF no}
def cZ (A:AR)(sp:Sp)(aF align no:Nat):Option Nat×AR×Sp:=match Zu A.n A.S aF align with
 | some x=>(some x,dV A x aF no,sp)
 | none=>match UT A sp (Q4 (max aF align))with
  | none=>(none,A,sp)
  | some (A',sp')=>match Zu A'.n A'.S aF align with
   | some x=>(some x,dV A' x aF no,sp')
   | none=>(none,A',sp')
def Z6 (A:AR)(k:Int):Int:=if A.ck k then(match A.cE[k.toNat]? with
 | some t=>if t.bs=[]then 4 else 0
 | none=>5)else 1
def YL (A:AR)(k:Int):List Int:=if Z6 A k=0 then(match A.cE[k.toNat]? with
 | some t=>t.bs.getLast?.getD []
 | none=>[])else[]
def ZR (A:AR)(k:Int):AR:=if Z6 A k=0 then{A with cE:=A.cE.modify k.toNat fQ.rem}else A
def Hx (A:AR)(k:Int)(xs:List Int):Int:=if A.ck k then(match A.tb[k.toNat]?,A.cC[k.toNat]? with
 | some c,some ss=>if xs.length=c.batch then(if xs.all (λx=>eI c ss x==some true)then 0 else 8)else 1
 | _,_=>5)else 1
def Vm (A:AR)(k:Int)(xs:List Int):Bool:=decide (Hx A k xs=0)&&(match A.cE[k.toNat]? with
 | some t=>decide (t.bs.length<A.room)
 | none=>false)
def Q7 (A:AR)(k:Int)(xs:List Int):AR:=if Vm A k xs then{A with cE:=A.cE.modify k.toNat λt=>{t with bs:=t.bs++[xs]}}else A
def QF (A:AR)(k m:Int):Int:=if A.ck k then(if m<0 then 1 else 0)else 1
def Vz (A:AR)(k m:Int):List Nat×List cH:=match A.tb[k.toNat]?,A.cC[k.toNat]? with
 | some c,some ss=>Q8 c m.toNat ss
 | _,_=>([],[])
def Yt (A:AR)(k m:Int):List Nat:=if QF A k m=0 then(Vz A k m).1 else[]
def YO (A:AR)(k m:Int):AR:=if QF A k m=0 then{A with cC:=A.cC.set k.toNat (Vz A k m).2}else A
def QW (A:AR)(k:Int)(xs:List Int):Int:=if A.ck k then(match A.tb[k.toNat]?,A.cC[k.toNat]? with
 | some c,some ss=>iS c ss xs
 | _,_=>5)else 1
def Zg (A:AR)(k:Int)(xs:List Int):AR:=if QW A k xs=0 then(match A.tb[k.toNat]?,A.cC[k.toNat]? with
 | some c,some ss=>VO {A with cC:=A.cC.set k.toNat (cK (xs.foldl (fM c) ss))} ((Z7 (xs.foldl (fM c) ss)).map λs=>(s,c.aF))
 | _,_=>A)else A
def KQ (A:AR)(sp:Sp)(k:Int):Int:=if A.ck k then(match A.tb[k.toNat]?,A.cC[k.toNat]? with
 | some c,some ss=>(match (cZ A sp c.aF 1 (k.toNat+1)).1 with
  | some x=>GW c ss x
  | none=>6)
 | _,_=>5)else 1
def cP (A:AR)(sp:Sp)(k:Int):AR×Sp:=if A.ck k then(match A.tb[k.toNat]?,A.cC[k.toNat]? with
 | some c,some ss=>(match cZ A sp c.aF 1 (k.toNat+1)with
  | (some x,A',sp')=>(if GW c ss x=0 then{A' with cC:=A'.cC.set k.toNat (iy c ss x)}else A',sp')
  | (none,A',sp')=>(A',sp'))
 | _,_=>(A,sp))else(A,sp)
def Kl (m a:Int):Bool:=decide (1<=m)&&(decide (m<=64)&&(a==1||(a==2||(a==4||(a==8||a==16)))))
def Qz (A:AR)(sp:Sp)(m a:Int):Int:=if Kl m a then(if(cZ A sp m.toNat a.toNat 41).1.isSome then 0 else 6)else 1
def Z5 (A:AR)(sp:Sp)(m a:Int):Nat:=if Kl m a then(cZ A sp m.toNat a.toNat 41).1.getD 0 else 0
def cD (A:AR)(sp:Sp)(m a:Int):AR×Sp:=if Kl m a then(match cZ A sp m.toNat a.toNat 41 with
 | (some x,A',sp')=>({A' with runs:=mset2 A'.runs x m.toNat},sp')
 | (none,A',sp')=>(A',sp'))else(A,sp)
where mset2 (l:List (Nat×Nat)) (x m:Nat):List (Nat×Nat):=if l.any (λr=>r.1==x)then l.map (λr=>if r.1==x then(x,m)else r)else l++[(x,m)]
def qz (A:AR)(x:Int):Option (Nat×Nat):=A.runs.find? λr=>(r.1:Int)==x
def KT (A:AR)(x:Int):Int:=if(qz A x).isSome then 0 else 8
def QE (A:AR)(x:Int):AR:=match qz A x with
 | some r=>V3 {A with runs:=A.runs.filter λq=>!((q.1:Int)==x)} r
 | none=>A
def sv (A:AR)(p:Nat):Option (Nat×Nat):=A.runs.find? λr=>decide (r.1<=p)&&decide (p<r.1+r.2)
def U8 (A:AR)(x:Int):Option (Int×Nat):=if x<0 then none else
 let p:=x.toNat/256
 let no:=if p<1024 then A.ow p else 0
 if no=0 then none else if no=41 then(sv A p).map λr=>(-1,r.1*256)else
 match A.tb[no-1]?,A.cC[no-1]? with
 | some c,some ss=>(rz c ss x).map λa=>(((no-1:Nat):Int),a)
 | _,_=>none
def wJ (A:AR)(x:Int):Bool:=match U8 A x with
 | some (k,a)=>if(a:Int)=x then(if k<0 then true else(match A.tb[k.toNat]?,A.cC[k.toNat]? with
  | some c,some ss=>eI c ss x==some true
  | _,_=>false))else false
 | none=>false
def US (A:AR)(p:Int):Bool:=decide (0<=p)&&decide (A.st.getD p.toNat 0≠0)
def QM (A:AR)(k:Nat):AR:=match A.tb[k]?,A.cC[k]? with
 | some c,some ss=>VO {A with cC:=A.cC.set k (cK ss)} ((Z7 ss).map λs=>(s,c.aF))
 | _,_=>A
def YI (A:AR):AR:=(List.range A.tb.length).foldl QM A
def fE (p:AR×Sp)(r:Nat×Nat):AR×Sp:=({p.1 with st:=VQ p.1.st r.1 r.2 3 [2]},dX p.2 r.1 r.2 1)
def V0 (A:AR)(want:Int):List (Nat×Nat):=Hq (YI A).st want
def dT (A:AR)(sp:Sp)(want:Int):AR×Sp:=if want<0 then(A,sp)else(V0 A want).foldl fE (YI A,sp)
def kC (A:AR)(want:Int):Nat:=if want<0 then 0 else((V0 A want).map (·.2)).sum
def Vn (p:AR×Sp)(h:Nat):AR×Sp:=({p.1 with st:=jS p.1.st h,S:=j2 p.1.n p.1.S ((h*16:Nat):Int) 16},dX p.2 ((h*16:Nat):Int) 16 0)
def eJ (A:AR)(sp:Sp):AR×Sp:=(Kf A.st 0).foldl Vn (A,sp)
def vu (A:AR):Nat:=(Kf A.st 0).length
def Ks (A:AR)(k:Nat):AR:=match A.cE[k]? with
 | some t=>t.out.foldl (λA' xs=>Zg A' k xs) {A with cE:=A.cE.set k t.tick}
 | none=>A
def U7 (A:AR):AR:=(List.range A.cE.length).foldl Ks A
def Ub (A:AR):Nat:=((A.tb.zip A.cE).map λx=>x.2.bs.flatten.length*x.1.size).sum
def qc (A:AR):Nat:=((A.tb.zip A.cC).map λx=>Kt x.2*x.1.size).sum
def Ur (A:AR):Nat:=((A.tb.zip A.cC).map λx=>x.2.length*x.1.tail).sum
def Uc (A:AR):Nat:=((A.tb.zip A.cC).map λx=>x.2.length*x.1.aF).sum
def Ug (A:AR):Nat:=(A.runs.map (·.2)).sum
end Go.Ar
namespace Go.Ar
open Go.Vc (bV dF cT)
inductive Ph where
 | take (k:Nat)
 | cN (k w:Nat)
 | cO (k w:Nat)
 | grow (k w:Nat)
 | fill
 | eV (m:Nat)
 | find (x:Int)
 | put (k:Nat) (x:Int)
 | back
 | dJ (s a:Int)
 | drain
 deriving DecidableEq
structure Th where
 ls:List Li
 bP:List Bt
 ph:Option Ph
structure Cf where
 aF:Nat
 iq:Nat
 threads:Nat
 dB:Nat
 room:Nat
abbrev Bk:=Int×Int×Int×Int
structure Hw where
 tb:List bW
 cf:Cf
 sp:Sp
 bT:List AR
 bQ:List Th
 live:List (Int×Bk)
def YJ (bT:List AR)(x:Int):Int:=if x<0 then -1 else match bT.findIdx? (λA=>US A (x/256))with
 | some i=>(i:Int)
 | none=>-1
def Hw.own (H:Hw)(t:Nat):Nat:=t%H.bT.length
def Hw.dZ (H:Hw)(t:Nat)(f:Th->Th):Hw:={H with bQ:=H.bQ.modify t f}
def Hw.cB (H:Hw)(k:Nat)(A:AR):Hw:={H with bT:=H.bT.set k A}
def VI (H:Hw)(x size cls:Int):Hw:={H with live:=dF H.live x (x,size,cls,YJ H.bT x)}
def QP (H:Hw)(t k:Nat)(xs:List Int):Hw:=H.dZ t λh=>{h with bP:=h.bP++[(k,xs)]}
def kf (H:Hw)(t:Nat):Option Ph:=match H.bQ[t]? with
 | some h=>if h.bP=[]then none else some .back
 | none=>none
def ZV (bT:List AR)(xs:List Int)(a:Nat):List Int:=xs.filter λx=>YJ bT x==(a:Int)
def Vp (H:Hw)(k:Nat)(part:Nat->List Int)(l:List Nat):Hw:=l.foldl (λH a=>match H.bT[a]? with
 | some A=>if part a=[]then H else H.cB a (Zg A (k:Int) (part a))
 | none=>H) H
def HU (H:Hw)(own k:Nat)(xs:List Int):Hw:=match H.bT[own]? with
 | some A=>if(ZV H.bT xs own).length=xs.length/\Vm A (k:Int) xs=true then H.cB own (Q7 A (k:Int) xs)
  else Vp (if(ZV H.bT xs own).length=xs.length then H.cB own (Q7 A (k:Int) xs)else H) k (ZV H.bT xs) (List.range H.bT.length)
 | none=>H
abbrev uj:=Hw×Option Ph×Int×Int
def mB (H:Hw)(x:Int):Int:=if 0<=YJ H.bT x then(match H.bT[(YJ H.bT x).toNat]? with
 | some A=>(match U8 A x with
  | some (k,y)=>if 0<=k/\(y:Int)=x then 9 else 8
  | none=>8)
 | none=>8)else 8
def UY (H:Hw)(t:Nat)(x:Int):uj:=match bV H.live x with
 | none=>(H,none,0,mB H x)
 | some b=>if b.2.2.1<0 then({H with live:=cT H.live x},some (.dJ (x/256) b.2.2.2),0,0)
  else(QP {H with live:=cT H.live x} t b.2.2.1.toNat [x],some (.put b.2.2.1.toNat x),0,0)
def Hw.kz (H:Hw)(t:Nat):Th:=H.bQ.getD t ⟨[],[],none⟩
def Hw.cls (H:Hw)(k:Nat):bW:=H.tb.getD k ⟨8,1,1⟩
def Hw.eM (H:Hw)(t:Nat):AR:=H.bT.getD (H.own t) ⟨0,0,[],λ_=>false,[],λ_=>0,[],[],[]⟩
def Th.li (h:Th)(k:Nat):Li:=h.ls.getD k iv
def Th.iI (h:Th)(k:Nat)(l:Li):Th:={h with ls:=h.ls.set k l}
def iE (H:Hw)(t k:Nat)(x:Int):Hw:=
 let c:=H.cls k
 let l:=(H.kz t).li k
 let H1:=H.dZ t λh=>h.iI k (dQ c x l).2
 let H2:=if(dQ c x l).1=[]then H1 else QP H1 t k (dQ c x l).1
 let H3:=H2.dZ t λh=>{h with bP:=h.bP.drop 1}
 if H.cf.dB<Qt H.tb (H3.kz t).ls then H3.dZ t λh=>{h with ls:=Q6 KH H.tb h.ls,bP:=h.bP++Ka KH H.tb h.ls}else H3
def Wt (H:Hw)(t:Nat):Ph->uj
 | .take k=>match Kb (H.cls k) ((H.kz t).li k)with
  | (some x,l)=>(VI (H.dZ t λh=>h.iI k l) x ((H.cls k).size:Int) (k:Int),none,x,0)
  | (none,l)=>(H.dZ t λh=>h.iI k l,some (.cN k (pv (H.cls k) l)),0,0)
 | .cN k w=>if w=(H.cls k).batch then(if Z6 (H.eM t) (k:Int)=0 then(QP (H.cB (H.own t) (ZR (H.eM t) (k:Int))) t k (YL (H.eM t) (k:Int)),some .fill,0,0)else(H,some (.cO k w),0,0))else(H,some (.cO k w),0,0)
 | .cO k w=>
  let H1:=H.cB (H.own t) (YO (H.eM t) (k:Int) (w:Int))
  if Yt (H.eM t) (k:Int) (w:Int)=[]then(H1,some (.grow k w),0,0)else(QP H1 t k ((Yt (H.eM t) (k:Int) (w:Int)).map λ(x:Nat)=>(x:Int)),some .fill,0,0)
 | .grow k w=>
  let r:=cP (H.eM t) H.sp (k:Int)
  let H1:={H.cB (H.own t) r.1 with sp:=r.2}
  if KQ (H.eM t) H.sp (k:Int)=0 then(H1,some (.cO k w),0,0)else(H1,none,0,KQ (H.eM t) H.sp (k:Int))
 | .fill=>match (H.kz t).bP with
  | (k,x::xs)::_=>(VI (H.dZ t λh=>{ls:=h.ls.set k (eL xs.reverse (h.li k)),bP:=[],ph:=h.ph}) x ((H.cls k).size:Int) (k:Int),none,x,0)
  | _=>(H,none,0,0)
 | .eV m=>
  let r:=cD (H.eM t) H.sp (m:Int) 1
  let H1:={H.cB (H.own t) r.1 with sp:=r.2}
  let x:Int:=((Z5 (H.eM t) H.sp (m:Int) 1*256:Nat):Int)
  if Qz (H.eM t) H.sp (m:Int) 1=0 then(VI H1 x ((m*256:Nat):Int) (-1),none,x,0)else(H1,none,0,Qz (H.eM t) H.sp (m:Int) 1)
 | .find x=>UY H t x
 | .put k x=>(iE H t k x,kf (iE H t k x) t,0,0)
 | .back=>match (H.kz t).bP with
  | (k,xs)::r=>
   let H1:=HU (H.dZ t λh=>{h with bP:=r}) (H.own t) k xs
   (H1,kf H1 t,0,0)
  | []=>(H,none,0,0)
 | .dJ s a=>(match H.bT[a.toNat]? with
  | some A=>H.cB a.toNat (QE A s)
  | none=>H,none,0,0)
 | .drain=>
  let H1:=H.dZ t λh=>{h with ls:=Q6 ZX H.tb h.ls,bP:=Ka ZX H.tb h.ls}
  (H1,kf H1 t,0,0)
end Go.Ar
namespace Go.Proofs
open Go.Vc
set_option maxRecDepth 100000
def ZG.h:Hn:=.q .o1 (.q (.q (.cV (.seq [.op,.op,.op,.op,.dA false 3 (RI.ops 3)])) .aK) (.q (.q .o3 (.k (.loop [(15,.I)] (.q .o1 (.q (.c .l .l) (.q (.k (.q .o6 (.q (.cV (.hO true [1] [(37,.one .b)] (.take 0 (.all [(1,.take 2 (.take 3 (.split 23 (.take 4 (.take 5 (.take 6 (.take 7 (.take 8 (.take 9 (.take 10 (.take 11 (.take 12 (.take 13 (.take 14 (.take 15 (.take 16 (.take 17 (.done))))))))))))))) (.take 4 (.take 5 (.take 6 (.split 26 (.take 7 (.take 9 (.take 10 (.take 11 (.take 12 (.take 13 (.all [(8,.all [(14,.take 15 (.take 16 (.take 17 (.done))))]),(14,.all [(8,.take 15 (.take 16 (.take 17 (.done))))])]))))))) (.take 7 (.take 8 (.take 9 (.take 10 (.take 11 (.take 12 (.take 13 (.take 14 (.take 15 (.take 16 (.take 17 (.done)))))))))))))))))))])))) .aK))) .o2)))))) .aM))
def ZG.v (a:Sl)(b:Hp)(c:aO):Prop:=bY (λd e=>If d (c false e) (W7 [bN] (λf=>f 0 e) λg (h:Int) i=>If (h<((a.len:Nat):Int)) (Ix a.a a.len h 3 λj=>aQ j 0 i λk=>aQ j 1 i λl=>aQ j 2 i λm=>aV #[.I 0,.I 0,.I 0] 31 i λn o=>aR n 0 (.I k) o λp=>aR n 1 (.I l) p λq=>aR n 2 (.I m) q λr=>Jn [.b] (λ(s:Bool) t=>If s (c false t) (bL (h+1) λu=>g u t)) λv=>dU r λw=>aS w n 0 λx=>aS w n 1 λy=>aS w n 2 λz=>Qx.c x y z r λaa ab=>If (!aa) (v true ab) (If (h>0) (bL (h-1) λac=>Ix a.a a.len ac 3 λad=>(aQ n 0 ab λae=>aQ ad 0 ab λaf=>v (decide (ae<=af)) ab) ∧ (aQ ad 0 ab λag=>aQ n 0 ab λah=>v (decide (ah<=ag)) ab)) (v false ab))) (c true i))) λai=>If (((a.len:Nat):Int)<1) (ai true b) (ai (decide (((a.len:Nat):Int)>40)) b)
theorem ZG.o {a b c}(d:ZG.v a b c):ZG.c a b c:=Wa Tryz.func40 (x:=ZG.h) (R0 d)
def Z1.h:Hn:=.q .o4 (.q (.k (.q .o4 (.c .aL (.q (.cV (.hO true [] [(13,.one .b)] (.tk [0,1,2] (.split 16 (.tk [3,4,5,6,7,8,9,10,11,12,13,14,15,16] (.done)) (.tk [3,4,5,6] (.split 20 (.tk [7,8,9,10,11,12,13,14,15,16] (.done)) (.tk [7,8,9,10] (.split 24 (.tk [11,12,13,14,15,16] (.done)) (.take 11 (.take 13 (.all [(12,.take 14 (.take 15 (.take 16 (.done))))]))))))))))) .aJ)))) (.q .o4 (.q (.q .o2 .aJ) (.q .o3 .l))))
def Z1.v (a:Sl)(b c:Int)(d:Hp)(e:Int->Int->Hp->Prop):Prop:=aV #[.I b] 3 d λf g=>aV #[.I c] 3 g λh i=>ZG.c a i λj k=>If (!j) (e 0 2 k) (Jn [.b] (λ(l:Bool) m=>If l (e 0 1 m) (Wl.c a ⟨80,#[],#[.pointer (some f),.pointer (some h)]⟩ m λn o=>If (n<0) (e 0 4 o) (e n 0 o))) λp=>dU k λq=>gP q bN f λ(r:Int)=>If (r<1) (p true k) (gP q bN h λ(s:Int)=>If (s<1) (p true k) (gP q bN h λ(t:Int)=>If (t>256) (p true k) (gP q bN h λ(u:Int)=>gP q bN h λ(v:Int)=>Qe.c u k λw x=>And (q x) <| p (w != v) x))))
theorem Z1.o {a b c d e}(f:Z1.v a b c d e):Z1.c a b c d e:=Wa Tryz.func41 (x:=Z1.h) (R0 f)
def Ze.h:Hn:=.q .o3 (.q (.q .o3 .aJ) (.q .o4 .l))
def Ze.v (a b c:Int)(d:Hp)(e:Int->Int->Hp->Prop):Prop:=aV #[.I a,.I b,.I c] 31 d λf g=>aQ f 0 g λh=>aQ f 1 g λi=>aQ f 2 g λj=>Qx.c h i j g λk l=>If (!k) (e 0 1 l) (aQ f 0 l λm=>aQ f 1 l λn=>aQ f 2 l λo=>ZI.c m n o l λp q=>e p 0 q)
theorem Ze.o {a b c d e}(f:Ze.v a b c d e):Ze.c a b c d e:=Wa Tryz.func42 (x:=Ze.h) (R0 f)
def Qp.h:Hn:=.q .o3 (.q (.q .o3 .aJ) (.q (.cV (.held true [] (.tk [0,1,2,3,5,6] (.all [(4,.tk [7,8,9,10] (.done))])))) .l))
def Qp.v (a b c:Int)(d:Hp)(e:Int->Int->Hp->Prop):Prop:=aV #[.I a,.I b,.I c] 31 d λf g=>aQ f 0 g λh=>aQ f 1 g λi=>aQ f 2 g λj=>Qx.c h i j g λk l=>If (!k) (e 0 1 l) (dU l λm=>aS m f 1 λn=>bL (n*256) λo=>aS m f 0 λp=>aS m f 1 λq=>aS m f 2 λr=>aS m f 0 λs=>ZI.c p q r l λt u=>And (m u) <| bL (t*s) λv=>bL (o-v) λw=>e w 0 u)
theorem Qp.o {a b c d e}(f:Qp.v a b c d e):Qp.c a b c d e:=Wa Tryz.func43 (x:=Qp.h) (R0 f)
def Qx.h:Hn:=.q .o2 (.q (.cV (.seq [.op,.op,.op,.op,.dA true 3 (RI.ops 3),.op,.dA true 4 (RI.ops 4),.op,.dA true 3 (RI.ops 3),.op,.dA true 3 (RI.ops 3),.op,.dA true 6 (RI.ops 6),.op,.dA true 3 (RI.ops 3),.op,.dA true 3 (RI.ops 3),.op])) .l)
def Qx.v (a b c:Int)(d:Hp)(e:aO):Prop:=aV #[.I a,.I b,.I c] 31 d λf g=>aQ f 0 g λh=>bY (λi j=>bY (λk l=>bY (λm n=>bY (λo p=>bY (λq r=>bY (λs t=>bY (λu v=>e u v) λw=>If s (aQ f 2 t λx=>w (decide (x<=32)) t) (w false t)) λy=>If q (aQ f 2 r λz=>y (decide (z≥1)) r) (y false r)) λaa=>If o (aQ f 1 p λab=>bL (ab*256) λac=>aQ f 0 p λad=>aa (decide (ac≥ad)) p) (aa false p)) λae=>If m (aQ f 1 n λaf=>ae (decide (af<=4)) n) (ae false n)) λag=>If k (aQ f 1 l λah=>ag (decide (ah≥1)) l) (ag false l)) λai=>If i (aQ f 0 j λaj=>Nz 8 <| ai ((aj.tmod 8)==0) j) (ai false j)) λak=>If (h≥8) (aQ f 0 g λal=>ak (decide (al<=512)) g) (ak false g)
theorem Qx.o {a b c d e}(f:Qx.v a b c d e):Qx.c a b c d e:=Wa Tryz.func77 (x:=Qx.h) (R0 f)
def Qe.h:Hn:=.q .o1 (.q .o1 (.q (.q .o1 (.k (.loop [(3,.I),(4,.I)] (.q (.q .o3 (.c .l .l)) (.q (.k .o2) .o3))))) .aL))
def Qe.v (a:Int)(b:Hp)(c:aN):Prop:=W7 [bN,bN] (λd=>d 0 1 b) λe (f:Int) (g:Int) h=>If (g<=a) (bL (g*2) λi=>e g i h) (c f h)
theorem Qe.o {a b c}(d:Qe.v a b c):Qe.c a b c:=Wa Tryz.func78 (x:=Qe.h) (R0 d)
def ZY.h:Hn:=.q .o2 (.q (.cV (.seq [.op,.op,.op,.op,.op,.dA true 5 (RI.ops 5),.op])) .l)
def ZY.v (a b c:Int)(d e:Addr)(f:Hp)(g:aO):Prop:=aV #[.I a,.I b,.I c] 31 f λh i=>aQ h 0 i λj=>bM d i λk=>bY (λl m=>g l m) λn=>If (j≥k) (aQ h 0 i λo=>bM e i λp=>Nz p <| n ((o.tmod p)==0) i) (n false i)
theorem ZY.o {a b c d e f g}(h:ZY.v a b c d e f g):ZY.c a b c d e f g:=Wa Tryz.func80 (x:=ZY.h) (R0 h)
def ZI.h:Hn:=.q .o2 (.q .o7 .l)
def ZI.v (a b c:Int)(d:Hp)(e:aN):Prop:=aV #[.I a,.I b,.I c] 31 d λf g=>aQ f 1 g λh=>bL (h*256) λi=>aQ f 0 g λj=>Nz j<|bL (i.tdiv j) λk=>e k g
theorem ZI.o {a b c d e}(f:ZI.v a b c d e):ZI.c a b c d e:=Wa Tryz.func81 (x:=ZI.h) (R0 f)
end Go.Proofs
namespace Go.Ar
open Go Go.Vc Go.Proofs
variable {σ:Hp}
theorem AW (x y z:Int){R:aO}(hR:∀σ',bO σ σ'->R (Uv x y z) σ'):Qx.c x y z σ R:=by
 refine Qx.o ?_;unfold Qx.v;refine nw (cs:=[.int .i64 x,.int .i64 y,.int .i64 z]) λh A e b=>?_;have i:Uv x y z=false->R false h:=λd=>d▸hR h e;have a:¬(8<=x/\x<=512/\x%8=0/\1<=y/\y<=4/\x<=y*256/\1<=z/\z<=32)->R false h:=λd=>i (by rw[←rm,Hv];exact d);refine b.rI rfl (bY.intro ?_);refine cI (λu=>b.rI rfl (bY.intro ?_)) λu=>?_
 case refine_2=>
  iterate 6 refine bY.intro (cG rfl ?_)
  exact a O
 refine cI (λr=>b.rI rfl (nz aB (bY.intro ?_))) λr=>?_
 case refine_2=>
  iterate 5 refine bY.intro (cG rfl ?_)
  exact a O
 rw[Q9 O];refine cU (λg=>b.rI rfl (bY.intro ?_)) λg=>?_
 case refine_2=>
  have:¬x%8=0:=by simpa using g
  iterate 4 refine bY.intro (cG rfl ?_)
  exact a O
 have s:x%8=0:=by simpa using g
 refine cI (λw=>b.rI rfl (bY.intro ?_)) λw=>?_
 case refine_2=>
  iterate 3 refine bY.intro (cG rfl ?_)
  exact a O
 refine cI (λj=>b.rI rfl (ar O O (b.rI rfl (bY.intro ?_)))) λj=>?_
 case refine_2=>
  iterate 2 refine bY.intro (cG rfl ?_)
  exact a O
 refine cI (λm=>b.rI rfl (bY.intro ?_)) λm=>?_
 case refine_2=>exact bY.intro (cG rfl (a O))
 refine cI (λp=>b.rI rfl ?_) λp=>a O;have:decide (z<=32)=Uv x y z:=by
  rw[nL,Hv];simp;omega
 rw[this];exact hR h e
theorem JG {c:bW}(hc:c.ok){R:aN}(hR:∀σ',bO σ σ'->R (c.n:Int) σ'):ZI.c c.size c.aF c.batch σ R:=by
 refine ZI.o ?_;unfold ZI.v;have h:=hc;unfold bW.ok at h;refine nw (cs:=[.int .i64 c.size,.int .i64 c.aF,.int .i64 c.batch]) λh b e a=>?_;refine a.rI rfl (cA (m:=c.aF*256) aA O (a.rI rfl (nz O ?_)));refine cA (m:=c.n) ?_ (by have:=hc.jQ;omega) (hR _ e);rw[YK O];simp[bW.n]
theorem UF (x y z:Int){R:Int->Int->Hp->Prop}(h1:∀c:bW,c.ok->x=c.size->y=c.aF->z=c.batch->∀σ',bO σ σ'->R (c.n:Int) 0 σ')(h0:Uv x y z=false->∀σ',bO σ σ'->R 0 1 σ'):Ze.c x y z σ R:=by
 refine Ze.o ?_;unfold Ze.v;refine nw (cs:=[.int .i64 x,.int .i64 y,.int .i64 z]) λh m e b=>?_;refine b.rI rfl (b.rI rfl (b.rI rfl (AW _ _ _ λj d=>?_)));have a:=d.bZ b id;cases hk:Uv x y z
 ·exact cJ rfl (h0 hk _ (e.trans d))
 ·obtain⟨c,g,_,rfl,rfl,rfl⟩:=yk hk;exact cG rfl (a.rI rfl (a.rI rfl (a.rI rfl (JG g λp i=>h1 c g rfl rfl rfl _ ((e.trans d).trans i)))))
theorem FR {c:bW}(hc:c.ok){R:Int->Int->Hp->Prop}(hR:∀σ',bO σ σ'->R (c.tail:Int) 0 σ'):Qp.c c.size c.aF c.batch σ R:=by
 refine Qp.o ?_;unfold Qp.v;have h:=hc;unfold bW.ok at h;refine nw (cs:=[.int .i64 c.size,.int .i64 c.aF,.int .i64 c.batch]) λu r e g=>?_;refine g.rI rfl (g.rI rfl (g.rI rfl (AW _ _ _ λs i=>?_)));rw[(UA c).2 hc];have d:=i.bZ g id;refine cG rfl ?_;refine⟨λb=>bX b σ.size [.int .i64 c.size,.int .i64 c.aF,.int .i64 c.batch],d,⟨_,λb a=>by rw[add_lit,a.cell];rfl,?_⟩⟩;refine cA (m:=c.aF*256) aA O ?_;refine⟨_,λb a=>by rw[add_lit,a.cell];rfl,⟨_,λb a=>by rw[add_lit,a.cell];rfl,⟨_,λb a=>by rw[add_lit,a.cell];rfl,⟨_,λb a=>by rw[add_lit,a.cell];rfl,?_⟩⟩⟩⟩;refine JG hc λw j=>⟨j.bZ d id,?_⟩;have p:=c.rK;refine cA (m:=c.n*c.size) aA O (cA (m:=c.tail) (by unfold bW.tail;omega) (by unfold bW.tail;omega) (hR _ ((e.trans i).trans j)))
end Go.Ar
namespace Go.Proofs
open Go.Vc
set_option maxRecDepth 100000
def X9.h:Hn:=.q .o1 (.q (.q (.cV (.seq [.op,.op,.op,.op,.dA false 2 [.op,.op],.op,.dA false 7 (RI.ops 7)])) .aK) (.q .o8 .l))
def X9.v (a:R2)(b:Int)(c:Hp)(d:aN):Prop:=WU.c a c λe f=>bY (λg h=>bY (λi j=>If i (d (-1) j) (bE a 0 j λl=>Ix l.a l.len b 1 λm=>bM m j λn=>d n j)) λo=>If g (o true h) (bE a 0 h λq=>o (decide (b≥((q.len:Nat):Int))) h)) λr=>If (!e) (r true f) (r (decide (b<0)) f)
theorem X9.o {a b c d}(e:X9.v a b c d):X9.c a b c d:=Wa Tryz.func143 (x:=X9.h) (R0 e)
def WU.h:Hn:=.q .o1 (.q (.cV (.seq [.op,.op,.op,.dA true 6 (RI.ops 6),.op])) .l)
def WU.v (a:R2)(b:Hp)(c:aO):Prop:=bY (λd e=>c d e) λf=>If (!a.isNone) (bE a 0 b λh=>f (decide (((h.len:Nat):Int)>0)) b) (f false b)
theorem WU.o {a b c}(d:WU.v a b c):WU.c a b c:=Wa Tryz.func149 (x:=WU.h) (R0 d)
def Ku.h:Hn:=.q .o2 (.q (.q (.cV (.seq [.op,.op,.op,.dA false 2 [.op,.op],.op,.dA false 3 (RI.ops 3)])) .aJ) (.q .o6 .l))
def Ku.v (a:Int)(b:Hp)(c:Option Addr->Int->Hp->Prop):Prop:=bY (λd e=>bY (λf g=>If f (c none 1 g) (Mk a a 8 3 [.I 0] g λh i=>aV #[.slice h.a h.len h.cap] 231 i λj k=>c (some j) 0 k)) λl=>If d (l true e) (Nz 16 <| l ((a.tmod 16) != 0) e)) λm=>If (a<16) (m true b) (m (decide (a>1024)) b)
theorem Ku.o {a b c}(d:Ku.v a b c):Ku.c a b c:=Wa Tryz.func155 (x:=Ku.h) (R0 d)
def Yv.h:Hn:=.q .o3 (.scope (.q (.k (.q .o4 (.c .aL (.q .o3 .aJ)))) (.q .o1 (.q (.q .o3 (.k (.loop [(6,.one .s),(23,.I)] (.q .o1 (.q (.c .l .l) (.q (.k (.q .o2 (.q .o5 (.c .o5 .l)))) .o2)))))) (.q .o3 (.q .o1 (.q .o1 (.q .l (.q (.q .o3 (.k (.loop [(8,.one .s),(9,.I),(41,.I)] (.q .o1 (.q (.c .l .l) (.q (.k (.q .o3 (.q .o1 (.k (.loop [(8,.one .s),(9,.I),(12,.I)] (.q (.q .o2 (.c .l .l)) (.q (.k (.q (.q .o3 (.c .l .l)) (.q .o1 (.q (.k (.loop [(13,.I)] (.q (.q (.cV (.seq [.op,.op,.op,.op,.op,.dA true 9 (RI.ops 9)])) (.c .l .l)) (.k .o3)))) (.q .o2 (.c (.q .fV (.q .o4 .o4)) .l)))))) .o3))))))) .o2)))))) (.q .o3 .l))))))))))
def Yv.v (a:R2)(b:Int)(c:Hp)(d:Sl->Int->Hp->Prop):Prop:=aV #[.pointer a] 172 c λe f=>fW e f λg=>WU.c g f λh i=>If (!h) (d ⟨none,0,0⟩ 5 i) (If (b<0) (d ⟨none,0,0⟩ 1 i) (fW e i λj=>XO.c j i λk l=>W7 [.s,bN] (λm=>m ⟨none,0,0⟩ 0 l) λn (o:Sl) (p:Int) q=>If (p<k) (fW e q λr=>Xm.c r p q λs t=>ZK.c s 2 t λu v=>If (u>0) (aV #[.I p] 3 v λw x=>App o 1 8 3 [.I 0] ⟨some w,1,1⟩ x λy z=>bL (p+1) λaa=>n y aa z) (bL (p+1) λab=>n o ab v)) (WN.c o ⟨233,#[],#[.pointer (some e)]⟩ q λac=>W7 [.s,bN,bN] (λad=>ad ⟨none,0,0⟩ 0 0 ac) λae (af:Sl) (ag:Int) (ah:Int) ai=>If (ah<((o.len:Nat):Int)) (Ix o.a o.len ah 1 λaj=>bM aj ai λak=>W7 [.s,bN,bN] (λal=>al af ag 0 ai) λam (an:Sl) (ao:Int) (ap:Int) aq=>If (ap<16) (If (ao≥b) (d an 0 aq) (W7 [bN] (λar=>ar 0 aq) λau (av:Int) aw=>bL (ap+av) λax=>bY (λay az=>If ay (bL (av+1) λa0=>au a0 az) (If (av>0) (bL (ak*16) λa1=>bL (a1+ap) λa2=>aV #[.I a2,.I av] 92 az λa3 a4=>App an 2 16 92 [.I 0,.I 0] ⟨some a3,1,1⟩ a4 λa5 a6=>bL (ao+av) λa7=>bL (ap+av) λa8=>bL (a8+1) λa9=>am a5 a7 a9 a6) (bL (ap+1) λba=>am an ao ba az))) λbb=>If (ax<16) (fW e aw λbc=>Xm.c bc ak aw λbd be=>bL (ap+av) λbf=>Ix bd.a bd.len bf 1 λbg=>bM bg be λbh=>bb (bh==2) be) (bb false aw))) (bL (ah+1) λbi=>ae an ao bi aq)) (d af 0 ai))))
theorem Yv.o {a b c d}(e:Yv.v a b c d):Yv.c a b c d:=Wa Tryz.func191 (x:=Yv.h) (R0 e)
def W8.h:Hn:=.q .o1 (.q .o6 .l)
def W8.v (a:R2)(b c:Int)(d:Hp)(e:aN):Prop:=aV #[.I 2] 3 d λf g=>Xu.c a b c 3 ⟨some f,1,1⟩ g λh i=>e h i
theorem W8.o {a b c d e}(f:W8.v a b c d e):W8.c a b c d e:=Wa Tryz.func192 (x:=W8.h) (R0 f)
def YE.h:Hn:=.q .o1 (.q .o3 .l)
def YE.v (a:R2)(b:Hp)(c:Sl->Hp->Prop):Prop:=Ya.c a 0 b λd e=>c d e
theorem YE.o {a b c}(d:YE.v a b c):YE.c a b c:=Wa Tryz.func194 (x:=YE.h) (R0 d)
def Xi.h:Hn:=.q .o1 (.q .o8 (.q (.k (.q .o3 (.c .aL (.q .o4 .aK)))) (.q .o2 .aM)))
def Xi.v (a:R2)(b:Int)(c:Hp)(d:aN):Prop:=XT.c a b c λe f g=>If (f != 0) (d f g) (Q2.c e g λh i=>If (!h) (d 5 i) (Qo.c e 0 i λj=>d 0 j))
theorem Xi.o {a b c d}(e:Xi.v a b c d):Xi.c a b c d:=Wa Tryz.func195 (x:=Xi.h) (R0 e)
def XE.h:Hn:=.q .o1 (.q .o6 .l)
def XE.v (a:R2)(b c:Int)(d:Hp)(e:aN):Prop:=aV #[.I 1] 3 d λf g=>Xu.c a b c 2 ⟨some f,1,1⟩ g λh i=>e h i
theorem XE.o {a b c d e}(f:XE.v a b c d e):XE.c a b c d e:=Wa Tryz.func225 (x:=XE.h) (R0 f)
def XO.h:Hn:=.q .o1 (.q .o7 .l)
def XO.v (a:R2)(b:Hp)(c:aN):Prop:=bE a 0 b λe=>Nz 16<|bL (((e.len:Nat):Int).tdiv 16) λf=>c f b
theorem XO.o {a b c}(d:XO.v a b c):XO.c a b c:=Wa Tryz.func229 (x:=XO.h) (R0 d)
def ZK.h:Hn:=.q .o1 (.q .o1 (.q (.q .o3 (.k (.loop [(5,.I),(10,.I)] (.q .o1 (.q (.c .l .l) (.q (.k (.q .o3 (.q .o3 (.c .o3 .l)))) .o2)))))) .aL))
def ZK.v (a:Sl)(b:Int)(c:Hp)(d:aN):Prop:=W7 [bN,bN] (λe=>e 0 0 c) λf (g:Int) (h:Int) i=>If (h<((a.len:Nat):Int)) (Ix a.a a.len h 1 λj=>bM j i λk=>If (k==b) (bL (g+1) λl=>bL (h+1) λm=>f l m i) (bL (h+1) λn=>f g n i)) (d g i)
theorem ZK.o {a b c d}(e:ZK.v a b c d):ZK.c a b c d:=Wa Tryz.func230 (x:=ZK.h) (R0 e)
def Xm.h:Hn:=.q .o1 (.q (.o 11) .l)
def Xm.v (a:R2)(b:Int)(c:Hp)(d:Sl->Hp->Prop):Prop:=bE a 0 c λf=>bL (b*16) λg=>bL (b+1) λh=>bL (h*16) λi=>eX f 1 g i (f.cap:Nat) λj=>d j c
theorem Xm.o {a b c d}(e:Xm.v a b c d):Xm.c a b c d:=Wa Tryz.func231 (x:=Xm.h) (R0 e)
def XM.h:Hn:=.q .o1 (.q (.cV (.held true [] (.tk [0,1,3,4] (.all [(2,.all [(5,.take 6 (.take 7 (.done)))])])))) (.q (.q .o6 (.q .o2 .aJ)) (.q (.q .o6 (.q .o2 .aJ)) (.q .o4 .l))))
def XM.v (a b:Int)(c:Addr)(d:Hp)(e:aN):Prop:=dU d λf=>gP f .p c λ(g:R2)=>gP f .p c λ(h:R2)=>Xm.c g a d λi j=>And (f j) <| Xm.c h b j λk l=>And (f l) <| Qy.c i l λm n=>Qy.c k n λo p=>bL (m-o) λq=>If (q != 0) (e q p) (ZK.c i 1 p λr s=>ZK.c k 1 s λt u=>bL (r-t) λv=>If (v != 0) (e v u) (bL (b-a) λw=>e w u))
theorem XM.o {a b c d e}(f:XM.v a b c d e):XM.c a b c d e:=Wa Tryz.func233 (x:=XM.h) (R0 f)
def Qy.h:Hn:=.q .o1 (.q (.k (.q .o4 (.c .aM (.q .o4 .aK)))) .aM)
def Qy.v (a:Sl)(b:Hp)(c:aN):Prop:=ZK.c a 1 b λd e=>If (d==0) (c 0 e) (ZK.c a 3 e λf g=>If (f>0) (c 1 g) (c 2 g))
theorem Qy.o {a b c}(d:Qy.v a b c):Qy.c a b c:=Wa Tryz.func234 (x:=Qy.h) (R0 d)
def Xu.h:Hn:=.q .o2 (.q (.k (.q .o4 (.c .aM (.q (.cV (.seq [.op,.op,.op,.dA false 2 [.op,.op],.op,.dA false 7 (RI.ops 7),.op,.dA false 9 (RI.ops 9),.op])) .aK)))) (.q .fV (.q (.q .o3 .aK) (.q .o3 .aM))))
def Xu.v (a:R2)(b c d:Int)(e:Sl)(f:Hp)(g:aN):Prop:=aV #[.slice e.a e.len e.cap] 69 f λh i=>WU.c a i λj k=>If (!j) (g 5 k) (bY (λl m=>bY (λn o=>bY (λp q=>If p (g 1 q) (bE a 0 q λs=>bL (b+c) λt=>eX s 1 b t (s.cap:Nat) λu=>Wx.c u ⟨269,#[],#[.pointer (some h)]⟩ q λv w=>If v (g 5 w) (Qo.c u d w λx=>g 0 x))) λy=>If n (y true o) (bE a 0 o λaa=>bL (((aa.len:Nat):Int)-b) λab=>y (decide (c>ab)) o)) λac=>If l (ac true m) (bE a 0 m λae=>ac (decide (b>((ae.len:Nat):Int))) m)) λaf=>If (b<0) (af true k) (af (decide (c<1)) k))
theorem Xu.o {a b c d e f g}(h:Xu.v a b c d e f g):Xu.c a b c d e f g:=Wa Tryz.func235 (x:=Xu.h) (R0 h)
def Ya.h:Hn:=.q .o1 (.q (.q .o3 .aK) (.q .o1 (.q (.q .o3 (.k (.loop [(5,.one .s),(13,.I)] (.q .o1 (.q (.c .l .l) (.q (.k (.q .o2 (.q .o4 (.q (.cV (.seq [.op,.op,.op,.op,.op,.dA true 4 (RI.ops 4)])) (.c .o5 .l))))) .o2)))))) .aL)))
def Ya.v (a:R2)(b:Int)(c:Hp)(d:Sl->Hp->Prop):Prop:=WU.c a c λe f=>If (!e) (d ⟨none,0,0⟩ f) (XO.c a f λg h=>W7 [.s,bN] (λi=>i ⟨none,0,0⟩ 0 h) λj (k:Sl) (l:Int) m=>If (l<g) (Xm.c a l m λn o=>Ix n.a n.len 0 1 λp=>bM p o λq=>bY (λr s=>If r (aV #[.I l] 3 s λt u=>App k 1 8 3 [.I 0] ⟨some t,1,1⟩ u λv w=>bL (l+1) λx=>j v x w) (bL (l+1) λy=>j k y s)) λz=>If (q != 0) (Qy.c n o λaa ab=>z (aa==b) ab) (z false o)) (d k m))
theorem Ya.o {a b c d}(e:Ya.v a b c d):Ya.c a b c d:=Wa Tryz.func237 (x:=Ya.h) (R0 e)
def XT.h:Hn:=.q .o2 (.q (.k (.q .o4 (.c .aL (.q (.cV (.seq [.op,.op,.op,.dA false 4 (RI.ops 4),.op])) .aJ)))) (.q .o5 .l))
def XT.v (a:R2)(b:Int)(c:Hp)(d:Sl->Int->Hp->Prop):Prop:=WU.c a c λe f=>If (!e) (d ⟨none,0,0⟩ 5 f) (bY (λg h=>If g (d ⟨none,0,0⟩ 1 h) (Xm.c a b h λi j=>d i 0 j)) λk=>If (b<0) (k true f) (XO.c a f λl m=>k (decide (b≥l)) m))
theorem XT.o {a b c d}(e:XT.v a b c d):XT.c a b c d:=Wa Tryz.func238 (x:=XT.h) (R0 e)
def Q2.h:Hn:=.q .o1 (.q (.cV (.seq [.op,.op,.op,.op,.op,.dA true 3 (RI.ops 3),.op])) .l)
def Q2.v (a:Sl)(b:Hp)(c:aO):Prop:=Ix a.a a.len 0 1 λd=>bM d b λe=>bY (λf g=>c f g) λh=>If (e != 0) (ZK.c a 1 b λi j=>h (i==0) j) (h false b)
theorem Q2.o {a b c}(d:Q2.v a b c):Q2.c a b c:=Wa Tryz.func239 (x:=Q2.h) (R0 d)
def Qo.h:Hn:=.q .o3 (.k (.loop [(7,.I)] (.q .o1 (.q (.c .l .l) (.q (.k (.q .o2 .o5)) .o2)))))
def Qo.v (a:Sl)(b:Int)(c:Hp)(d:aP):Prop:=W7 [bN] (λe=>e 0 c) λf (g:Int) h=>If (g<((a.len:Nat):Int)) (Ix a.a a.len g 1 λi=>dG i (.I b) h λj=>bL (g+1) λk=>f k j) (d h)
theorem Qo.o {a b c d}(e:Qo.v a b c d):Qo.c a b c d:=Wa Tryz.func240 (x:=Qo.h) (R0 e)
def XN.h:Hn:=.q .o1 (.q .o6 .l)
def XN.v (a:R2)(b c:Int)(d:Hp)(e:aN):Prop:=aV #[.I 2,.I 3] 3 d λf g=>Xu.c a b c 1 ⟨some f,2,2⟩ g λh i=>e h i
theorem XN.o {a b c d e}(f:XN.v a b c d e):XN.c a b c d e:=Wa Tryz.func254 (x:=XN.h) (R0 f)
def YG.h:Hn:=.q .o1 (.q .o5 .l)
def YG.v (a:Int)(b:Addr)(c:Hp)(d:aO):Prop:=jn b c λe=>Wo.c e a c λf g=>d (!f) g
theorem YG.o {a b c d}(e:YG.v a b c d):YG.c a b c d:=Wa Tryz.func269 (x:=YG.h) (R0 e)
def Ye.h:Hn:=.q .o1 (.q .o8 (.q (.k (.q .o3 (.c .aL (.q .o5 .aK)))) (.q .o2 .aM)))
def Ye.v (a:R2)(b:Int)(c:Hp)(d:aN):Prop:=XT.c a b c λe f g=>If (f != 0) (d f g) (Ix e.a e.len 0 1 λh=>bM h g λi=>If (i != 0) (d 5 g) (Qo.c e 3 g λj=>d 0 j))
theorem Ye.o {a b c d}(e:Ye.v a b c d):Ye.c a b c d:=Wa Tryz.func281 (x:=Ye.h) (R0 e)
end Go.Proofs