/- Texts joined. -/
import Derived.Deep.Slices
import Derived.Deep.Fields
import Derived.ChangeSame
import Derived.Lib.SmallJoins
import Derived.Below
import Derived.Test.YtkabjcanamcbeaaGreatDoorProg
import Derived.KernelRfl
import Derived.Shelf.SlIterI.Nil
import Derived.Shelf.SortM.Plain
import Derived.Shelf.SortM.SortNone
import Derived.Ground.GgzProg
import Derived.Ground.SlgmProg
import Derived.Shelf.SlMaps.Clone
import Derived.Ground.SlmcProg
import Derived.Test.YtkabjcanamcbeaaGreatDoorL1
set_option linter.unusedVariables false
set_option linter.unusedSimpArgs false
namespace Go.Vc
open Go
abbrev Rg:=Nat->Prop
def dS (P:Hp->Rg->Prop):Prop:=∀σ σ' (F G:Rg),P σ F->σ.size<=σ'.size->(∀b,b<σ.size->F b->G b/\σ'[b]?=σ[b]?)->P σ' G
def Grow (F:Rg)(σ:Hp):Rg:=λb=>F b\/σ.size<=b
theorem dS.mono {P:Hp->Rg->Prop}(hl:dS P){σ:Hp}{F G:Rg}(h:P σ F)(hs:∀b,b<σ.size->F b->G b):P σ G:=hl σ σ F G h (zD _) λb d a=>⟨hs b d a,rfl⟩
theorem dS.bU {P:Hp->Rg->Prop}(hl:dS P){σ σ':Hp}{F T:Rg}(h:P σ F)(e:Ext T σ σ')(hn:∀b,b<σ.size->F b->¬T b):P σ' F:=
 hl σ σ' F F h e.1 λb d a=>⟨a,e.2 b d (hn b d a)⟩
theorem dS.bK {P:Hp->Rg->Prop}(hl:dS P){σ σ':Hp}{F:Rg}(h:P σ F)(e:bO σ σ'):P σ' F:=hl.bU h e λ_ _ _=>id
def Sep {L:Type}(C:L->Hp->Rg->Prop)(σ:Hp)(F:Rg):Prop:=∃ρ:Nat->L,∀i,C i σ λb=>F b/\ρ b=i
variable {L:Type}{C:L->Hp->Rg->Prop}{σ σ':Hp}{F:Rg}
theorem Sep.loc (hC:∀i,dS (C i)):dS (Sep C):=by
 rintro σ j F G ⟨ρ,h⟩ g d;exact⟨ρ,λi=>hC i _ _ _ _ (h i) g λb e a=>⟨⟨(d b e a.1).1,a.2⟩,(d b e a.1).2⟩⟩
theorem Sep.get (h:Sep C σ F)(i:L):∃G:Rg,(∀b,G b->F b)/\C i σ G:=by
 obtain⟨ρ,h⟩:=h;exact⟨_,λb a=>a.1,h i⟩
open Classical in
theorem Sep.tV (hC:∀i,dS (C i))(h:Sep C σ F)(i j:L)(hij:i≠j):∃G H:Rg,(∀b,G b->F b)/\(∀b,H b->F b)/\(∀b,G b->¬H b)/\C i σ G/\C j σ H/\∀(σ':Hp) (C':L->Hp->Rg->Prop) (G' H':Rg),
 (∀k,k≠i->k≠j->C' k=C k)->Ext (λb=>G b\/H b) σ σ'->(∀b,G' b->(G b\/H b)\/σ.size<=b)->(∀b,H' b->(G b\/H b)\/σ.size<=b)->(∀b,G' b->¬H' b)->C' i σ' G'->C' j σ' H'->(∀k,dS (C' k)) →
 Sep C' σ' λb=>F b/\b<σ.size/\¬(G b\/H b)\/G' b\/H' b:=by
 obtain⟨ρ,h⟩:=h;refine⟨_,_,λb a=>a.1,λb a=>a.1,λb g x=>hij (g.2.symm.trans x.2),h i,h j,λσ' C' G' H' w e y A hd z B u=>⟨λb=>if G' b then i else if H' b then j else ρ b,λk=>?_⟩⟩
 by_cases hki:k=i
 ·subst hki;exact(u _).mono z λb _ a=>⟨.inr (.inl a),zB a⟩
 by_cases hkj:k=j
 ·subst hkj;exact(u _).mono B λb _ a=>⟨.inr (.inr a),by show(if G' b then i else if H' b then k else ρ b)=k;rw[zA λd=>hd b d a,zB a]⟩
 ·rw[w k hki hkj];refine hC k _ _ _ _ (h k) e.1 λb a r=>?_;have s:¬((F b/\ρ b=i)\/F b/\ρ b=j):=by
   rintro(d|d)
   ·exact hki (r.2.symm.trans d.2)
   ·exact hkj (r.2.symm.trans d.2)
  have p:¬G' b:=λd=>by
   rcases y b d with g|g
   ·exact s g
   ·omega
  have m:¬H' b:=λd=>by
   rcases A b d with g|g
   ·exact s g
   ·omega
  exact⟨⟨.inl ⟨r.1,a,s⟩,by show(if G' b then i else if H' b then j else ρ b)=k;rw[zA p,zA m];exact r.2⟩,e.2 b a s⟩
def iW (p:Nat)(cs:List Value):Hp->Rg->Prop:=λσ F=>F p/\bX σ p cs
theorem iW.loc (p:Nat)(cs:List Value):dS (iW p cs):=λσ g F G h d b=>by
 obtain⟨e,a⟩:=h.2;have:=b p h.2.lt h.1;exact⟨this.1,e,this.2.trans a⟩
def lQ (r:Nat)(k:IntKind)(c:CK)(l:List (Int×c.T)):Hp->Rg->Prop:=λσ F=>F r/\dN σ r k c l
theorem lQ.loc (r:Nat)(k:IntKind)(c:CK)(l:List (Int×c.T)):dS (lQ r k c l):=λσ i F G h g e=>by
 have:=e r h.2.lt h.1;obtain⟨d,a,b,rest⟩:=h.2;exact⟨this.1,d,a,this.2.trans b,rest⟩
def BY:Hp->Rg->Prop:=λ_ _=>True
theorem BY.loc:dS BY:=λ_ _ _ _ _ _ _=>trivial
def Bl (s:Sl)(sz:Nat)(xs:List Value):Hp->Rg->Prop:=λσ F=>Own F σ s sz xs
theorem Bl.loc (s:Sl)(sz:Nat)(xs:List Value):dS (Bl s sz xs):=λσ g F G h d a=>by
 refine⟨h.1,h.2.imp id ?_⟩;rintro⟨b,cs,hq,ha,⟨e,he⟩,r⟩;have:=a b (bX.lt ⟨e,he⟩) hq;exact⟨b,cs,this.1,ha,⟨e,this.2.trans he⟩,r⟩
def bS (s:Sl)(sz:Nat)(xs:List Value):Hp->Rg->Prop:=λh F=>xs.length=s.len*sz/\(s.len=0/\s.cap=0\/∃b cs,F b/\s.a=some ⟨b,0,none⟩/\bX h b cs/\s.len<=s.cap/\cs.length=s.cap*sz/\cs.take xs.length=xs)
theorem bS.loc (s:Sl)(sz:Nat)(xs:List Value):dS (bS s sz xs):=λσ g F G h d a=>by
 refine⟨h.1,h.2.imp id ?_⟩;rintro⟨b,cs,hq,ha,⟨e,he⟩,r⟩;have:=a b (bX.lt ⟨e,he⟩) hq;exact⟨b,cs,this.1,ha,⟨e,this.2.trans he⟩,r⟩
theorem _root_.aI{s n xs}:dS (bS s n xs):=bS.loc _ _ _
theorem bS.nil (h:Hp)(F:Rg)(sz:Nat)(a:Option Addr):bS ⟨a,0,0⟩ sz [] h F:=⟨by simp,.inl ⟨rfl,rfl⟩⟩
theorem bS.rd {h:Hp}{F:Rg}{s:Sl}{sz:Nat}{xs:List Value}(ho:bS s sz xs h F):Rd h s.a xs:=by
 rcases ho.2 with⟨hl,_⟩|⟨b,cs,_,ha,hb,_,_,ht⟩
 ·have:=ho.1;rw[hl]at this;simp at this;subst this;cases s.a<;>simp[Rd]
 ·rw[ha];intro j v hv;rw[add_lit,hb.cell,zI];rw[←ht,zb]at hv;split at hv
  ·exact hv
  ·cases hv
theorem bS.app {F:Rg}{h:Hp}{s x:Sl}{sz bytes e:Nat}{zs xs ys:List Value}{K:Sl->Hp->Prop}(ho:bS s sz xs h F)(hz:zs.length=sz)
 (hy:ys.length=x.len*sz) (hr:Rd h x.a ys) (h1:∀v∈ys,dP v=true) (hb:(s.len+x.len)*bytes<=2^46) (hc:s.len+x.len<=2^62)
 (hx:0<x.len) (hK:∀s' h',s'.len=s.len+x.len->Ext F h h'->bS s' sz (xs++ys) h' (Grow F h)->K s' h'):App s sz bytes e zs x h K:=by
 refine⟨xs,ys,ho.1,hy,ho.rd,hr,h1,hb,hc,λg=>?_,λp c j=>?_⟩
 ·rcases ho.2 with⟨hl,hcap⟩|⟨b,cs,hQ,ha,hk,hle,hcl,ht⟩
  ·omega
  ·rw[ha];simp only;rw[add_lit];have r:(s.len+x.len)*sz<=s.cap*sz:=pf _ g;rw[zc]at r;have d:=ho.1;refine Ul hk O λh' m i=>hK _ h' rfl (Ext.eR m hQ) ⟨?_,.inr ⟨b,_,.inl hQ,rfl,i,g,?_,?_⟩⟩
   ·simp[d,hy,zc]
   ·simp;omega
   ·rw[zK,d];rw[zI,zt,←d];rw[ht,tT aA,qx aA]
 ·refine hK _ _ rfl (Ext.push _ _ _) ⟨by simp[ho.1,hy,zc],.inr ⟨h.size,xs++ys++(List.replicate (c-(s.len+x.len)) zs).flatten,.inr (zD _),rfl,⟨e,by simp⟩,j,?_,?_⟩⟩
  ·simp only[zK,ye,wX,yp,ho.1,hy,hz,←zc]
   congr 1;omega
  ·rw[tT aA,qx aA]
theorem bS.st {F:Rg}{h:Hp}{s:Sl}{sz:Nat}{xs:List Value}(ho:bS s sz xs h F){j:Nat}(hj:j<xs.length){v:Value}{K:aP}{a:Addr}(ha:∀b,s.a=some ⟨b,0,none⟩->a=⟨b,j,none⟩)
 (hK:∀h',Ext F h h'->bS s sz (xs.set j v) h' F->K h'):cY a v h K:=by
 rcases ho.2 with⟨hl,_⟩|⟨b,cs,hq,hsa,hb,hle,hcl,ht⟩
 ·have:=ho.1;rw[hl]at this;simp at this;subst this;simp at hj
 ·rw[ha b hsa];have d:j<cs.length:=by
   have:(cs.take xs.length).length=xs.length:=by rw[ht]
   rw[zP]at this;omega
  refine⟨by rw[hb.cell,cM d];rfl,hb.sG,hK _ (Ext.nA (F:=F) hq) ⟨by simp[ho.1],.inr ⟨b,_,hq,hsa,hb.set v,hle,by simp[hcl],?_⟩⟩⟩;rw[sx,List.take_set,ht]
def cT (s:Sl)(sz:Nat)(xs:List Value):Hp->Rg->Prop:=λσ F=>xs.length=s.len*sz/\(xs=[]\/∃b o cs,F b/\s.a=some ⟨b,o,none⟩/\qu σ b cs/\∀j,j<xs.length->cs[o+j]?=xs[j]?)
theorem cT.loc (s:Sl)(sz:Nat)(xs:List Value):dS (cT s sz xs):=λσ g F G h d a=>by
 refine⟨h.1,h.2.imp id ?_⟩;rintro⟨b,o,cs,hq,ha,⟨e,z,he⟩,r⟩;have:=a b (qu.lt ⟨e,z,he⟩) hq;exact⟨b,o,cs,this.1,ha,⟨e,z,this.2.trans he⟩,r⟩
theorem _root_.aH{s n xs}:dS (cT s n xs):=cT.loc _ _ _
theorem bS.gE {Q:Rg}{h:Hp}{s:Sl}{sz:Nat}{xs:List Value}(ho:bS s sz xs h Q):cT s sz xs h Q:=by
 refine⟨ho.1,?_⟩;rcases ho.2 with⟨hl,_⟩|⟨b,cs,hq,ha,hb,_,_,ht⟩
 ·left;have:=ho.1;rw[hl]at this;simpa using this
 ·refine .inr ⟨b,0,cs,hq,ha,hb.q,λj a=>?_⟩;rw[←ht,zb,zI,zB a]
theorem cT.cell {s:Sl}{sz:Nat}{xs:List Value}(h:cT s sz xs σ F){j:Nat}{v:Value}(hv:xs[j]?=some v):∃b o,s.a=some ⟨b,o,none⟩/\Vc.cell σ ⟨b,o+j,none⟩=some v:=by
 have d:=(cQ.1 hv).1;rcases h.2 with h0|⟨b,o,cs,_,ha,hb,hc⟩
 ·subst h0;simp at d
 ·exact⟨b,o,ha,by rw[hb.cell,hc j d];exact hv⟩
theorem cT.tj {s:Sl}{k:IntKind}{xs:List Int}(h:cT s 1 (xs.map (Value.int k)) σ F){i:Nat}{x:Int}(hx:xs[i]?=some x){K:Int->Prop}(hK:K x):Ix s.a s.len (i:Int) 1 λa=>fL k a σ K:=by
 have m:=(cQ.1 hx).1;obtain⟨b,o,e,d⟩:=h.cell (j:=i) (v:=.int k x) (by simp[hx]);have g:=h.1;simp at g;rw[e];refine ix O O ?_;rw[add_lit];exact rl (by simpa using d) hK
theorem cT.rd {s:Sl}{sz:Nat}{xs:List Value}(h:cT s sz xs σ F):Rd σ s.a xs:=by
 cases ha:s.a with
 | none=>
  rcases h.2 with h0|⟨b,o,cs,_,d,_⟩
  ·exact h0
  ·rw[ha]at d;cases d
 | some a=>
  intro j v hv;obtain⟨b,o,d,e⟩:=h.cell hv;rw[ha]at d;cases d;rw[add_lit];exact e
end Go.Vc
namespace Go.Vc
open Go Go.ChangeShapes Go.WideShapes Go.Deep Go.RowKit
def R9 (σ:Hp):Bool->Hp->Prop:=λb σ'=>b=true/\bO σ σ'
theorem Ρ {P:Program}{f:Nat}{args:Array Value}{w:World}(h:We P f args [.one .b] w.heap (R9 w.heap)):Calls P f args w λe w'=>e=.returned (.bool true)/\Below w.heap.size w w':=by
 refine(h w rfl).mono ?_;rintro e w' ⟨a,vs,rfl,g⟩
 match vs,g with
 | [v],g=>
  obtain⟨x,rfl,m,j⟩:=g;have d:x=true:=m;subst d;exact⟨rfl,⟨a.1,a.2.1,a.2.2.1,a.2.2.2,λk i=>j.2 k i id⟩⟩
def gM (h:Hp)(l:Sl)(xs:List (Int×Int×Int)):Prop:=l.len=xs.length/\∀i x y z,xs[i]?=some (x,y,z)->∃b o,l.a=some ⟨b,o,none⟩/\b<h.size ∧
 cell h ⟨b,o+i*3,none⟩=some (.int .i64 x)/\cell h ⟨b,o+i*3+1,none⟩=some (.int .i64 y)/\cell h ⟨b,o+i*3+2,none⟩=some (.int .i64 z)
theorem NJ {h:Hp}{a:Addr}{v:Value}(hc:cell h a=some v):a.block<h.size/\a.spot=none:=by
 unfold cell at hc;split at hc
 ·rename_i heq;refine⟨(pJ.1 heq).1,?_⟩;cases hs:a.spot with
  | none=>rfl
  | some s=>rw[hs]at hc;simp at hc
 ·cases hc
end Go.Vc
namespace Go.Vc
open Go
theorem dZ {k:IntKind}{b o i:Nat}{h:Hp}{x:Int}{K:Int->Prop}(hc:cell h ⟨b,o+i,none⟩=some (.int k x))(hK:K x):fL k (Addr.add ⟨b,o,none⟩ i) h K:=by
 rw[add_lit];exact rl hc hK
theorem cA {e:Int}{m:Nat}{K:Int->Prop}(he:e=(m:Int))(hm:m<=4611686018427387904)(hK:K (m:Int)):Ar .i64 e K:=by
 rw[he];exact ar O O hK
theorem IG {k:Nat}(h:k<=62):min ((k:Int).toNat) IntKind.i64.bits=k:=by
 have:IntKind.i64.bits=64:=rfl;rw[this];omega
theorem C6 {k:IntKind}{e:Int}{K:Int->Prop}(hK:K (k.wrap e)):Ar k e K:=hK
variable {σ:Hp}{b o i j:Nat}{cs:List Value}
theorem bX.rI (hb:bX σ b cs){k:IntKind}{x:Int}{K:Int->Prop}(hc:cs[o+i]?=some (.int k x))(hK:K x):fL k (Addr.add ⟨b,o,none⟩ i) σ K:=by
 rw[add_lit];exact rl (hb.cell.trans hc) hK
theorem bX.rB (hb:bX σ b cs){x:Bool}{K:Bool->Prop}(hc:cs[o+i]?=some (.bool x))(hK:K x):mM (Addr.add ⟨b,o,none⟩ i) σ K:=by
 rw[add_lit];exact oH (hb.cell.trans hc) hK
theorem bX.rP (hb:bX σ b cs){x:Option Addr}{K:Option Addr->Prop}(hc:cs[o+i]?=some (.pointer x))(hK:K x):fY (Addr.add ⟨b,o,none⟩ i) σ K:=by
 rw[add_lit];exact wL (hb.cell.trans hc) hK
theorem bX.rM (hb:bX σ b cs){x:Option Nat}{K:Option Nat->Prop}(hc:cs[o+i]?=some (.map x))(hK:K x):qc (Addr.add ⟨b,o,none⟩ i) σ K:=by
 rw[add_lit];exact Ln (hb.cell.trans hc) hK
theorem bX.rS (hb:bX σ b cs){a:Option Addr}{n c:Nat}{K:Sl->Prop}(hc:cs[o+i]?=some (.slice a n c))(hK:K ⟨a,n,c⟩):kG (Addr.add ⟨b,o,none⟩ i) σ K:=by
 rw[add_lit];exact rm (hb.cell.trans hc) hK
theorem bX.gG (hb:bX σ b cs){k:IntKind}{x:Int}{K:Int->Prop}(hc:cs[o+i+j]?=some (.int k x))(hK:K x):fL k (Addr.add (Addr.add ⟨b,o,none⟩ i) j) σ K:=by
 rw[add_lit,add_lit];exact rl (hb.cell.trans hc) hK
theorem bX.Ai (hb:bX σ b cs){k:IntKind}{x:Int}{K:Int->Prop}(hc:cs[o]?=some (.int k x))(hK:K x):fL k ⟨b,o,none⟩ σ K:=rl (hb.cell.trans hc) hK
theorem bX.yx (hb:bX σ b cs){x:Option Addr}{K:Option Addr->Prop}(hc:cs[o]?=some (.pointer x))(hK:K x):fY ⟨b,o,none⟩ σ K:=wL (hb.cell.trans hc) hK
theorem bX.Cv (hb:bX σ b cs){a:Option Addr}{n c:Nat}{K:Sl->Prop}(hc:cs[o]?=some (.slice a n c))(hK:K ⟨a,n,c⟩):kG ⟨b,o,none⟩ σ K:=rm (hb.cell.trans hc) hK
theorem bX.s1 (hb:bX σ b cs){v:Value}(ho:o+i<cs.length){K:aP}(hK:∀h',QJ σ h' b->bX h' b (cs.set (o+i) v)->K h'):cY (Addr.add ⟨b,o,none⟩ i) v σ K:=by
 rw[add_lit];refine⟨?_,hb.sG,hK _ ⟨Vz _ _ _,λc a=>V4 a⟩ (hb.set v)⟩;rw[hb.cell,cM ho];rfl
theorem bX.s0 (hb:bX σ b cs){v:Value}(ho:o<cs.length){K:aP}(hK:∀h',QJ σ h' b->bX h' b (cs.set o v)->K h'):cY ⟨b,o,none⟩ v σ K:=by
 refine⟨?_,hb.sG,hK _ ⟨Vz _ _ _,λc a=>V4 a⟩ (hb.set v)⟩;rw[hb.cell,cM ho];rfl
theorem nw {e:Nat}{K:Addr->Hp->Prop}(hK:∀h',h'.size=σ.size+1->bO σ h'->bX h' σ.size cs->K ⟨σ.size,0,none⟩ h'):Nw (.cells cs.toArray e (0,0)) σ K:=
 hK _ aA (Ext.push _ _ _) (bX.push _ _ _)
theorem xo {K:Addr->Hp->Prop}(hK:∀h',h'.size=σ.size+1->bO σ h'->(∀(k:IntKind) (c:CK),dN h' σ.size k c [])->K ⟨σ.size,0,none⟩ h'):Nw (.map #[] 0) σ K:=
 hK _ aA (Ext.push _ _ _) λk c=>dN.push _ _ _
theorem mk {n bytes e:Nat}{zs:List Value}{K:Sl->Hp->Prop}(h1:bytes*n<=1073741824)(h2:n<=1073741824)
 (hK:∀h',h'.size=σ.size+1->bO σ h'->bX h' σ.size (List.replicate n zs).flatten->K ⟨some ⟨σ.size,0,none⟩,n,n⟩ h'):Mk (n:Int) (n:Int) bytes e zs σ K:=by
 refine⟨O,vE _,?_,O,?_⟩
 ·have:((bytes:Int)*(n:Int))=((bytes*n:Nat):Int):=by simp
  rw[this];omega
 ·simp only[dE];exact nw hK
theorem jV {s:Sl}{sz lo hi mx:Nat}{K:Sl->Prop}(h1:lo<=hi)(h2:hi<=mx)(h3:mx<=s.cap)(hK:K ⟨if mx=lo then s.a else s.a.map (·.add (lo*sz)),hi-lo,mx-lo⟩):eX s sz (lo:Int) (hi:Int) (mx:Int) K:=
 ⟨O,O,O,O,by simpa using hK⟩
theorem lP (a b:Nat):(((a:Nat):Int)==((b:Nat):Int))=(a==b):=by rw[qN];simp;omega
theorem xH (a b:Nat):(((a:Nat):Int) != ((b:Nat):Int))=(a != b):=by rw[bne,bne,lP]
theorem y5 (a:Nat):(((a:Nat):Int)==0)=(a==0):=lP a 0
theorem FG (a:Nat):(((a:Nat):Int) != 0)=(a != 0):=xH a 0
def ints (l:List Nat):List Value:=l.map λ(x:Nat)=>Value.int .i64 (x:Int)
theorem QP (l:List Nat):(ints l).length=l.length:=by simp[ints]
theorem Mu {l:List Nat}{i x:Nat}(h:l[i]?=some x):(ints l)[i]?=some (.int .i64 (x:Int)):=by simp[ints,h]
theorem Vv (l m:List Nat):ints (l++m)=ints l++ints m:=by simp[ints]
theorem cT.sI {s:Sl}{F:Rg}{xs:List Nat}(h:cT s 1 (ints xs) σ F){i x:Nat}(hx:xs[i]?=some x){K:Int->Prop}(hK:K (x:Int)):Ix s.a s.len (i:Int) 1 λa=>fL .i64 a σ K:=by
 have j:=(cQ.1 hx).1;obtain⟨b,o,e,d⟩:=h.cell (Mu hx);have g:=h.1;rw[QP]at g;rw[e];refine ix O O ?_;rw[add_lit];exact rl (by simpa using d) hK
theorem cT.lB {s:Sl}{F:Rg}{xs:List Nat}(h:cT s 1 (ints xs) σ F):s.len=xs.length:=by
 have:=h.1;rw[QP]at this;omega
theorem cT.nil (F:Rg)(a:Option Addr)(c sz:Nat):cT ⟨a,0,c⟩ sz [] σ F:=⟨by simp,.inl rfl⟩
theorem bX.gE {s:Sl}{sz:Nat}{xs:List Value}(hb:bX σ b cs)(ha:s.a=some ⟨b,o,none⟩)(hl:xs.length=s.len*sz)(hc:∀j,j<xs.length->cs[o+j]?=xs[j]?):cT s sz xs σ (· = b):=
 ⟨hl,.inr ⟨b,o,cs,rfl,ha,hb.q,hc⟩⟩
theorem Wor {a xa:Option Addr}{xc sz bytes e:Nat}{zs:List Value}{K:Sl->Hp->Prop}(hK:K ⟨a,0,0⟩ σ):App ⟨a,0,0⟩ sz bytes e zs ⟨xa,0,xc⟩ σ K:=by
 refine⟨[],[],by simp,by simp,by cases a<;>simp[Rd],by cases xa<;>simp[Rd],by simp,by simp,by simp,λ_=>?_,λh=>absurd (zD 0) h⟩
 cases a
 ·exact hK
 ·exact hK
theorem bS.push {F:Rg}{s:Sl}{sz bytes e t:Nat}{zs xs vs:List Value}{K:Sl->Hp->Prop}(ho:bS s sz xs σ F)(hF:∀b,σ.size<=b->F b)(hz:zs.length=sz)(hv:vs.length=sz)(h1:∀v∈vs,dP v=true)
 (hb:bytes<=1000) (hl:s.len<=1000000) (hK:∀s' h',s'.len=s.len+1->Ext F σ h'->bS s' sz (xs++vs) h' F->K s' h') :
 Nw (.cells vs.toArray t (0,0)) σ λn v=>App s sz bytes e zs ⟨some n,1,1⟩ v K:=by
 refine nw λv w m i=>?_;have a:=(bS.loc s sz xs).bK ho m;refine a.app (ys:=vs) hz (by simp[hv]) ?_ h1 ?_ ?_ qW λs' h' d p g=>hK s' h' d (m.to.trans p) ?_
 ·intro j u hu;rw[add_lit,zI,i.cell];exact hu
 ·simp only;have:(s.len+1)*bytes<=1000001*1000:=nC O hb;omega
 ·simp only;omega
 ·exact aI.mono g λb _ r=>by
   rcases r with h|h
   ·exact h
   ·exact hF b O
theorem bS.lB {F:Rg}{s:Sl}{xs:List Nat}(h:bS s 1 (ints xs) σ F):s.len=xs.length:=by
 have:=h.1;rw[QP]at this;omega
theorem BM {F:Rg}{s:Sl}{sz bytes e:Nat}{zs vs:List Value}{R:Sl->Hp->Prop}(h:cT s sz vs σ F)(hpos:0<sz)(hz:zs.length=sz)(h1:∀v∈vs,dP v=true)(hb:bytes<=1000)(hl:s.len<=1000000)
 (hR:∀s' σ',s'.len=s.len->bO σ σ'->bS s' sz vs σ' (λb=>σ.size<=b)->R s' σ') :
 If s.a.isNone (R ⟨none,0,0⟩ σ) (Nw (.cells #[] e (0,0)) σ λn v=>App ⟨some n,0,0⟩ sz bytes e zs s v λt v1=>R t v1):=by
 have d:=h.1;refine cU (λr=>?_) λr=>?_
 ·have y:vs=[]:=by
   rcases h.2 with g|⟨b,o,cs,_,ha,_⟩
   ·exact g
   ·rw[ha]at r;cases r
  subst y;have g:s.len=0:=by
   have z:s.len*sz=0:=by simpa using d.symm
   rcases yo.1 z with h|h
   ·exact h
   ·omega
  exact hR _ _ (by simp[g]) (Ext.refl _ _) (bS.nil _ _ _ _)
 ·refine nw (cs:=[]) λv D m C=>?_;have B:=(cT.loc s sz vs).bK h m;rcases AF s.len with g|g
  ·obtain⟨a,n,c⟩:=s;simp only at g;subst g;have:vs=[]:=by simpa using d
   subst this;exact Wor (hR _ _ rfl m (bS.nil _ _ _ _))
  ·refine(bS.nil v (λb=>σ.size<=b) sz (some ⟨σ.size,0,none⟩)).app (ys:=vs) hz d B.rd h1 ?_ ?_ g λs' A p u j=>hR s' A (by simpa using p) ?_ ?_
   ·simp only[zI];have:s.len*bytes<=1000000*1000:=nC hl hb;omega
   ·simp only;omega
   ·exact Ext.fresh m u λi x=>x
   ·rw[sU]at j;exact aI.mono j λb _ w=>by
     rcases w with h|h
     ·exact h
     ·omega
def Cut (F:Rg)(σ:Hp):Rg:=λb=>F b/\b<σ.size
theorem dS.cut {P:Hp->Rg->Prop}(hl:dS P){F:Rg}(h:P σ F):P σ (Cut F σ):=hl.mono h λb d a=>⟨a,d⟩
theorem Ext.cut {F:Rg}{σ':Hp}(e:Ext (Cut F σ) σ σ'):Ext F σ σ':=⟨e.1,λb g d=>e.2 b g λa=>d a.1⟩
theorem Ext.sub {F G:Rg}{a b:Hp}(e:Ext F a b)(h:∀i,F i->G i):Ext G a b:=e.mono λi _ d=>h i d
theorem QJ.ext {h h':Hp}{r:Nat}(ho:QJ h h' r):Ext (· = r) h h':=Ext.eR ho rfl
theorem Ext.iV {F:Rg}{a b c:Hp}(e:Ext F a b)(k:Ext (Grow F a) b c):Ext F a c:=
 ⟨zJ e.1 k.1,λi d g=>(k.2 i (yR d e.1) λj=>by rcases j with h|h;exact g h;omega).trans (e.2 i d g)⟩
theorem Ext.fH {F G:Rg}{a b c:Hp}(e:Ext F a b)(k:Ext G b c)(h:∀i,G i->F i\/a.size<=i):Ext F a c:=e.iV (k.sub h)
theorem Gm {P:Program}{f:Nat}{first caps:Array Value}{args:List Value}{all:Array Value}{rs:List SK}{R:eT (jD rs)}(hok:HP P f=true)(he:first++args.toArray++caps=all)
 (hc:We P f all rs σ R):V2 P ⟨f,first,caps⟩ args rs σ R:=⟨hok,by unfold La;simp only;rw[he];exact hc⟩
theorem Q0 {h h':Hp}{F:Nat->Prop}(e:Ext F h h'){b o:Nat}(hb:b<h.size)(hF:¬F b):cell h' ⟨b,o,none⟩=cell h ⟨b,o,none⟩:=by
 unfold cell;rw[e.2 b hb hF]
theorem DE {h h':Hp}{l:Sl}{xs:List (Int×Int×Int)}{F:Nat->Prop}(ha:gM h l xs)(e:Ext F h h')(hF:∀b,F b->∀o,l.a≠some ⟨b,o,none⟩):gM h' l xs:=by
 refine⟨ha.1,λi x y z r=>?_⟩;obtain⟨b,o,j,d,m,p,s⟩:=ha.2 i x y z r;have g:¬F b:=λu=>hF b u o j;exact⟨b,o,j,yR d e.1,by rw[Q0 e d g];exact m,by rw[Q0 e d g];exact p,by rw[Q0 e d g];exact s⟩
theorem YP {h h':Hp}{l:Sl}{xs:List (Int×Int×Int)}(ha:gM h l xs)(e:bO h h'):gM h' l xs:=DE ha e λ_ h=>h.elim
theorem Hi {h:Hp}{l:Sl}{xs:List (Int×Int×Int)}(ha:gM h l xs){i:Nat}{x y z:Int}(hx:xs[i]?=some (x,y,z)){K:Int->Int->Int->Prop}(hK:K x y z) :
 Ix l.a l.len (i:Int) 3 λa=>fL .i64 (a.add 0) h λu=>fL .i64 (a.add 1) h λv=>fL .i64 (a.add 2) h λw=>K u v w:=by
 obtain⟨b,o,d,m,e,g,j⟩:=ha.2 i x y z hx;have p:=(cQ.1 hx).1;rw[d];refine ix O (by rw[ha.1];omega) ?_;rw[add_lit];refine dZ (by simpa using e) (dZ (by simpa using g) (dZ (by simpa using j) hK))
end Go.Vc
namespace Go.Proofs
open Go.Vc
abbrev _root_.R1:=@We Tryz.prog
abbrev _root_.R2:=Option Addr
def Xq.c (a b c d e f:Int)(g:Sl)(h:Hp)(i:aO):=R1 11 #[.agg #[.I a,.I b,.I c,.I d,.I e,.I f],.slice g.a g.len g.cap] [.one .b] h i
def W5.c (a:Hp)(b:aO):=R1 13 #[] [.one .b] a b
def Qi.c (a:Sl)(b c:Int)(d:Hp)(e:Int->Int->Hp->Prop):=R1 14 #[.slice a.a a.len a.cap,.I b,.I c] [.I,.I] d e
def WX.c (a:Int)(b:Hp)(c:Sl->Int->Hp->Prop):=R1 16 #[.I a] [.one .s,.I] b c
def WU.c (a b c:Int)(d:Hp)(e:aN):=R1 18 #[.agg #[.I a,.I b,.I c]] [.I] d e
def QR.c (a:R2)(b:Hp)(c:Option Addr->Int->Hp->Prop):=R1 19 #[.pointer a] [.one .p,.I] b c
def Xz.c (a:R2)(b c d:Int)(e:Hp)(f:Int->Int->Hp->Prop):=R1 20 #[.pointer a,.I b,.I c,.I d] [.I,.I] e f
def YI.c (a:R2)(b:Hp)(c:Int->Int->Hp->Prop):=R1 21 #[.pointer a] [.I,.I] b c
def Zc.c (a:R2)(b c:Int)(d:Hp)(e:aN):=R1 23 #[.pointer a,.I b,.I c] [.I] d e
def Wy.c (a:R2)(b:Hp)(c:Int->Int->Int->Int->Int->Int->Int->Int->Int->Int->Hp->Prop):=R1 24 #[.pointer a] [.agg [bN,bN,bN,bN,bN,bN,bN,bN,bN,bN]] b c
def YG.c (a:R2)(b:Hp)(c:Sl->Hp->Prop):=R1 25 #[.pointer a] [.one .s] b c
def XH.c (a:Hp)(b:Option Addr->Hp->Prop):=R1 29 #[] [.one .p] a b
def X5.c (a b c d e f:Int)(g:Sl)(h:Int)(i:Hp)(j:Option Addr->Hp->Prop):=R1 30 #[.agg #[.I a,.I b,.I c,.I d,.I e,.I f],.slice g.a g.len g.cap,.I h] [.one .p] i j
def Zj.c (a:R2)(b:Hp)(c:Sl->Hp->Prop):=R1 31 #[.pointer a] [.one .s] b c
def WO.c (a:R2)(b:Hp)(c:aN):=R1 32 #[.pointer a] [.I] b c
def YX.c (a:R2)(b:Hp)(c:Sl->Hp->Prop):=R1 33 #[.pointer a] [.one .s] b c
def X1.c (a:Sl)(b:Int)(c:Hp)(d:aO):=R1 34 #[.slice a.a a.len a.cap,.I b] [.one .b] c d
def Xr.c (a:R2)(b c d e f g h:Int)(i:ByteArray)(j:Hp)(k:aN):=R1 35 #[.pointer a,.agg #[.I b,.I c,.I d,.I e,.I f,.I g,.I h,.string i]] [.I] j k
def Ww.c (a:R2)(b:Hp)(c:Int->Int->Int->Int->Int->Int->Int->Int->Int->Int->Int->Hp->Prop):=R1 36 #[.pointer a] [.agg [bN,bN,bN,bN,bN,bN,bN,bN,bN,bN,bN]] b c
def X7.c (a b:Sl)(c:Hp)(d:aO):=R1 39 #[.slice a.a a.len a.cap,.slice b.a b.len b.cap] [.one .b] c d
def ZH.c (a:Sl)(b:Hp)(c:aO):=R1 40 #[.slice a.a a.len a.cap] [.one .b] b c
def Z3.c (a:Sl)(b c:Int)(d:Hp)(e:Int->Int->Hp->Prop):=R1 41 #[.slice a.a a.len a.cap,.I b,.I c] [.I,.I] d e
def Ze.c (a b c:Int)(d:Hp)(e:Int->Int->Hp->Prop):=R1 42 #[.agg #[.I a,.I b,.I c]] [.I,.I] d e
def Qr.c (a b c:Int)(d:Hp)(e:Int->Int->Hp->Prop):=R1 43 #[.agg #[.I a,.I b,.I c]] [.I,.I] d e
def Xk.c (a b:Int)(c:Hp)(d:Int->Int->Int->Hp->Prop):=R1 47 #[.I a,.I b] [.agg [bN,bN,bN]] c d
def Ya.c (a b:Int)(c:Hp)(d:aN):=R1 48 #[.I a,.I b] [.I] c d
def QI.c (a:R2)(b:Hp)(c:aO):=R1 50 #[.pointer a] [.one .b] b c
def Xg.c (a:R2)(b:Hp)(c:aO):=R1 51 #[.pointer a] [.one .b] b c
def Yn.c (a:R2)(b c d:Int)(e:Hp)(f:Int->Int->Hp->Prop):=R1 52 #[.pointer a,.I b,.I c,.I d] [.I,.I] e f
def XC.c (a:R2)(b:Int)(c:Hp)(d:aP):=R1 53 #[.pointer a,.I b] [] c d
def XS.c (a:R2)(b:Int)(c:R2)(d:Hp)(e:aP):=R1 54 #[.pointer a,.I b,.pointer c] [] d e
def Za.c (a:R2)(b:Hp)(c:Int->Int->Int->Int->Int->Hp->Prop):=R1 55 #[.pointer a] [.agg [bN,bN,bN,bN,bN]] b c
def Tr.c (a:R2)(b:Int)(c:Hp)(d:Int->Int->Hp->Prop):=R1 56 #[.pointer a,.I b] [.I,.I] c d
def Zo.c (a:R2)(b c:Int)(d:Hp)(e:aN):=R1 58 #[.pointer a,.I b,.I c] [.I] d e
def Xc.c (a:Sl)(b:Fv)(c:Hp)(d:aN):=R1 59 #[.slice a.a a.len a.cap,.func (.func b.f) b.first b.captured] [.I] c d
def XJ.c (a b c d:Int)(e:Hp)(f:aN):=R1 60 #[.agg #[.I a,.I b,.I c,.I d]] [.I] e f
def Wu.c (a b c d e f:Int)(g:Hp)(h:Option Addr->Hp->Prop):=R1 63 #[.agg #[.I a,.I b,.I c,.I d,.I e,.I f]] [.one .p] g h
def WS.c (a b c d e f:Int)(g:Hp)(h:aO):=R1 64 #[.agg #[.I a,.I b,.I c,.I d,.I e,.I f]] [.one .b] g h
def WN.c (a:R2)(b:Hp)(c:aO):=R1 65 #[.pointer a] [.one .b] b c
def VX.c (a:Fv)(b:Hp)(c:Sl->Hp->Prop):=R1 66 #[.func (.func a.f) a.first a.captured] [.one .s] b c
def ZP.c (a:Option Nat)(b:Hp)(c:Fv->Hp->Prop):=R1 67 #[.map a] [.one .fn] b c
def Wc.c (a:Sl)(b:Hp)(c:Sl->Hp->Prop):=R1 68 #[.slice a.a a.len a.cap] [.one .s] b c
def Yl.c (a:Sl)(b c d e f g h:Int)(i:ByteArray)(j:Hp)(k:aN):=R1 69 #[.slice a.a a.len a.cap,.agg #[.I b,.I c,.I d,.I e,.I f,.I g,.I h,.string i]] [.I] j k
def Zd.c (a:R2)(b:Sl)(c d e f g h i:Int)(j:ByteArray)(k:Hp)(l:Int->Int->Int->Hp->Prop):=R1 70 #[.pointer a,.slice b.a b.len b.cap,.agg #[.I c,.I d,.I e,.I f,.I g,.I h,.I i,.string j]] [.I,.I,.I] k l
def XF.c (a:R2)(b:Hp)(c:aN):=R1 71 #[.pointer a] [.I] b c
def Xv.c (a:R2)(b:Hp)(c:aN):=R1 72 #[.pointer a] [.I] b c
def Xu.c (a:R2)(b:Hp)(c:aN):=R1 73 #[.pointer a] [.I] b c
def X9.c (a:R2)(b:Hp)(c:Int->Int->Int->Int->Int->Int->Hp->Prop):=R1 74 #[.pointer a] [.I,.I,.I,.I,.I,.I] b c
def Yj.c (a:R2)(b:Int)(c:Hp)(d:aN):=R1 75 #[.pointer a,.I b] [.I] c d
def Y7.c (a:R2)(b:Int)(c:Hp)(d:Int->Int->Int->Hp->Prop):=R1 76 #[.pointer a,.I b] [.I,.I,.I] c d
def QE.c (a b c:Int)(d:Hp)(e:aO):=R1 77 #[.agg #[.I a,.I b,.I c]] [.one .b] d e
def Qh.c (a:Int)(b:Hp)(c:aN):=R1 78 #[.I a] [.I] b c
def Wl.c (a:Sl)(b:Fv)(c:Hp)(d:aN):=R1 79 #[.slice a.a a.len a.cap,.func (.func b.f) b.first b.captured] [.I] c d
def Z0.c (a b c:Int)(d e:Addr)(f:Hp)(g:aO):=R1 80 #[.agg #[.I a,.I b,.I c],.pointer (some d),.pointer (some e)] [.one .b] f g
def ZF.c (a b c:Int)(d:Hp)(e:aN):=R1 81 #[.agg #[.I a,.I b,.I c]] [.I] d e
def XX.c (a:R2)(b c d e f:Int)(g:Hp)(h:Int->Int->Hp->Prop):=R1 83 #[.pointer a,.I b,.agg #[.I c,.I d,.I e,.I f]] [.I,.I] g h
def Zs.c (a:R2)(b:Hp)(c:Option Addr->Hp->Prop):=R1 84 #[.pointer a] [.one .p] b c
def WH.c (a:Sl)(b:Hp)(c:Sl->Hp->Prop):=R1 90 #[.slice a.a a.len a.cap] [.one .s] b c
def KM.c (a:Sl)(b c d e f:Int)(g:Hp)(h:Option Addr->Int->Hp->Prop):=R1 92 #[.slice a.a a.len a.cap,.agg #[.I b,.I c,.I d,.I e,.I f]] [.one .p,.I] g h
def VE.c (a:Fv)(b:Hp)(c:Sl->Hp->Prop):=R1 93 #[.func (.func a.f) a.first a.captured] [.one .s] b c
def Zt.c (a:R2)(b:Int)(c:Hp)(d:aN):=R1 96 #[.pointer a,.I b] [.I] c d
def Zr.c (a:R2)(b c:Int)(d:Hp)(e:aN):=R1 97 #[.pointer a,.I b,.I c] [.I] d e
def Yr.c (a:R2)(b c d e f:Int)(g:Hp)(h:aN):=R1 98 #[.pointer a,.I b,.agg #[.I c,.I d,.I e,.I f]] [.I] g h
def Y8.c (a:R2)(b:Int)(c:Hp)(d:Bool->Int->Int->Int->Hp->Prop):=R1 99 #[.pointer a,.I b] [.one .b,.agg [bN,bN],.I] c d
def YE.c (a:R2)(b:Int)(c:Hp)(d:Int->Int->Hp->Prop):=R1 100 #[.pointer a,.I b] [.I,.I] c d
def ZB.c (a:R2)(b:Hp)(c:aN):=R1 101 #[.pointer a] [.I] b c
def ZA.c (a:R2)(b:Hp)(c:aP):=R1 102 #[.pointer a] [] b c
def Xt.c (a:R2)(b:Hp)(c:aN):=R1 103 #[.pointer a] [.I] b c
def Xx.c (a:R2)(b:Hp)(c:aO):=R1 104 #[.pointer a] [.one .b] b c
def Xh.c (a:R2)(b:Hp)(c:aO):=R1 105 #[.pointer a] [.one .b] b c
def WF.c (a:R2)(b:Hp)(c:aO):=R1 106 #[.pointer a] [.one .b] b c
def X6.c (a:R2)(b:Hp)(c:Sl->Hp->Prop):=R1 107 #[.pointer a] [.one .s] b c
def W4.c (a:R2)(b:Hp)(c:Sl->Hp->Prop):=R1 108 #[.pointer a] [.one .s] b c
def YD.c (a:R2)(b:Hp)(c:aN):=R1 109 #[.pointer a] [.I] b c
def Zk.c (a:R2)(b:Hp)(c:aN):=R1 110 #[.pointer a] [.I] b c
def Wk.c (a:Sl)(b:Fv)(c:Hp)(d:aN):=R1 111 #[.slice a.a a.len a.cap,.func (.func b.f) b.first b.captured] [.I] c d
def Zh.c (a:R2)(b:Addr)(c:Hp)(d:aO):=R1 112 #[.pointer a,.pointer (some b)] [.one .b] c d
def Zb.c (a:R2)(b:Int)(c:Hp)(d:aO):=R1 113 #[.pointer a,.I b] [.one .b] c d
def Zm.c (a:R2)(b:Int)(c:Hp)(d:aN):=R1 114 #[.pointer a,.I b] [.I] c d
def YB.c (a:R2)(b:Int)(c:Hp)(d:Int->Int->Hp->Prop):=R1 115 #[.pointer a,.I b] [.I,.I] c d
def X3.c (a:R2)(b c:Int)(d:Hp)(e:aN):=R1 116 #[.pointer a,.I b,.I c] [.I] d e
def QH.c (a b c d e:Int)(f:Hp)(g:aO):=R1 123 #[.agg #[.I a,.I b,.I c,.I d,.I e]] [.one .b] f g
def Q8.c (a:Int)(b:Hp)(c:Option Addr->Int->Hp->Prop):=R1 124 #[.I a] [.one .p,.I] b c
def Ka.c (a:Sl)(b:R2)(c:Int)(d:Hp)(e:Option Addr->Int->Hp->Prop):=R1 125 #[.slice a.a a.len a.cap,.pointer b,.I c] [.one .p,.I] d e
def Kc.c (a:Sl)(b:Int)(c:Hp)(d:Option Addr->Int->Hp->Prop):=R1 126 #[.slice a.a a.len a.cap,.I b] [.one .p,.I] c d
def ZT.c (a:Int)(b:Hp)(c:aN):=R1 129 #[.int .u64 a] [.I] b c
def Yx.c (a:R2)(b c:Int)(d:Hp)(e:aN):=R1 130 #[.pointer a,.I b,.I c] [.I] d e
def YU.c (a:R2)(b:Int)(c:Hp)(d:aO):=R1 131 #[.pointer a,.I b] [.one .b] c d
def YA.c (a:R2)(b c d e:Int)(f:Hp)(g:Value->Hp->Prop):=R1 132 #[.pointer a,.agg #[.I b,.I c,.I d,.I e]] [.one .raw] f g
def Zy.c (a:R2)(b:Int)(c:Value)(d:Hp)(e:Value->Int->Int->Hp->Prop):=R1 133 #[.pointer a,.I b,c] [.one .raw,.agg [bN,bN]] d e
def Xn.c (a:R2)(b:Int)(c:Hp)(d:Int->Int->Hp->Prop):=R1 134 #[.pointer a,.I b] [.I,.I] c d
def Yh.c (a:R2)(b:Hp)(c:aN):=R1 135 #[.pointer a] [.I] b c
def Y6.c (a:R2)(b:Hp)(c:aP):=R1 136 #[.pointer a] [] b c
def WC.c (a:R2)(b:Hp)(c:aO):=R1 137 #[.pointer a] [.one .b] b c
def ZG.c (a:R2)(b:Hp)(c:Int->Int->Hp->Prop):=R1 138 #[.pointer a] [.agg [bN,bN]] b c
def WM.c (a:R2)(b:Hp)(c:aO):=R1 139 #[.pointer a] [.one .b] b c
def XB.c (a:Sl)(b:Hp)(c:Sl->Hp->Prop):=R1 140 #[.slice a.a a.len a.cap] [.one .s] b c
def XW.c (a:R2)(b:Hp)(c:aN):=R1 141 #[.pointer a] [.I] b c
def XQ.c (a:R2)(b:Hp)(c:aO):=R1 142 #[.pointer a] [.one .b] b c
def X8.c (a:R2)(b:Int)(c:Hp)(d:aN):=R1 143 #[.pointer a,.I b] [.I] c d
def XP.c (a:R2)(b:Hp)(c:aO):=R1 144 #[.pointer a] [.one .b] b c
def XU.c (a:R2)(b:Int)(c:Hp)(d:Option Addr->Hp->Prop):=R1 145 #[.pointer a,.I b] [.one .p] c d
def Yi.c (a:R2)(b:Int)(c:Hp)(d:Int->Int->Hp->Prop):=R1 146 #[.pointer a,.I b] [.I,.I] c d
def Wj.c (a:Sl)(b c:Bool)(d:Hp)(e:aO):=R1 147 #[.slice a.a a.len a.cap,.agg #[.bool b,.bool c]] [.one .b] d e
def WW.c (a:R2)(b:Hp)(c:aO):=R1 149 #[.pointer a] [.one .b] b c
def Qj.c (a:Hp)(b:Option Addr->Hp->Prop):=R1 150 #[] [.one .p] a b
def YY.c (a:R2)(b c d:Int)(e:Hp)(f:aN):=R1 152 #[.pointer a,.I b,.I c,.I d] [.I] e f
def Q9.c (a:Int)(b:Hp)(c:Option Addr->Int->Hp->Prop):=R1 154 #[.I a] [.one .p,.I] b c
def KJ.c (a:Int)(b:Hp)(c:Option Addr->Int->Hp->Prop):=R1 155 #[.I a] [.one .p,.I] b c
def Qg.c (a b c:Int)(d:Hp)(e:Option Addr->Int->Hp->Prop):=R1 156 #[.agg #[.I a,.I b,.I c]] [.one .p,.I] d e
def Z1.c (a b:Int)(c:Hp)(d:Option Addr->Int->Hp->Prop):=R1 157 #[.I a,.I b] [.one .p,.I] c d
def ZJ.c (a:Int)(b:Hp)(c:aN):=R1 168 #[.int .u64 a] [.I] b c
def Zn.c (a:R2)(b c:Int)(d:Hp)(e:aP):=R1 169 #[.pointer a,.I b,.I c] [] d e
def ZI.c (a:R2)(b:Int)(c:Hp)(d:aN):=R1 170 #[.pointer a,.I b] [.I] c d
def Yt.c (a:R2)(b:Int)(c:Hp)(d:Int->Int->Hp->Prop):=R1 171 #[.pointer a,.I b] [.I,.I] c d
def Y1.c (a:R2)(b c d:Int)(e:Hp)(f:Value->Int->Int->Hp->Prop):=R1 172 #[.pointer a,.I b,.I c,.I d] [.one .raw,.agg [bN,bN]] e f
def Yp.c (a:R2)(b:Int)(c:Hp)(d:Int->Int->Hp->Prop):=R1 173 #[.pointer a,.I b] [.I,.I] c d
def WB.c (a:R2)(b:Int)(c:Hp)(d:Sl->Int->Hp->Prop):=R1 174 #[.pointer a,.I b] [.one .s,.I] c d
def YC.c (a:R2)(b c:Int)(d:Sl)(e:Hp)(f:aP):=R1 175 #[.pointer a,.I b,.I c,.slice d.a d.len d.cap] [] e f
def WG.c (a:R2)(b c:Int)(d:Hp)(e:Sl->Int->Hp->Prop):=R1 176 #[.pointer a,.I b,.I c] [.one .s,.I] d e
def Ys.c (a:R2)(b:Int)(c:Hp)(d:aN):=R1 177 #[.pointer a,.I b] [.I] c d
def Yd.c (a:R2)(b:Int)(c:Sl)(d:Hp)(e:aN):=R1 178 #[.pointer a,.I b,.slice c.a c.len c.cap] [.I] d e
def WT.c (a:R2)(b c:Int)(d:Hp)(e:Int->Int->Hp->Prop):=R1 179 #[.pointer a,.I b,.I c] [.I,.I] d e
def ZC.c (a:R2)(b c:Int)(d:Hp)(e:Value->Int->Int->Hp->Prop):=R1 180 #[.pointer a,.I b,.I c] [.one .raw,.agg [bN,bN]] d e
def YW.c (a:R2)(b c:Int)(d:Hp)(e:Sl->Int->Hp->Prop):=R1 181 #[.pointer a,.I b,.I c] [.one .s,.I] d e
def Yo.c (a:R2)(b:Hp)(c:aO):=R1 182 #[.pointer a] [.one .b] b c
def Xa.c (a:R2)(b:Hp)(c:Sl->Hp->Prop):=R1 183 #[.pointer a] [.one .s] b c
def W7.c (a:R2)(b:Int)(c:Hp)(d:Value->Hp->Prop):=R1 184 #[.pointer a,.I b] [.one .raw] c d
def Wp.c (a:Sl)(b:Hp)(c:Sl->Hp->Prop):=R1 185 #[.slice a.a a.len a.cap] [.one .s] b c
def Zz.c (a:R2)(b c:Int)(d:Sl)(e:Hp)(f:aP):=R1 186 #[.pointer a,.I b,.agg #[.I c,.slice d.a d.len d.cap]] [] e f
def WV.c (a:R2)(b:Int)(c:Hp)(d:aN):=R1 187 #[.pointer a,.I b] [.I] c d
def XT.c (a:R2)(b:Hp)(c:Sl->Hp->Prop):=R1 188 #[.pointer a] [.one .s] b c
def Xi.c (a:R2)(b:Sl)(c:Hp)(d:aP):=R1 189 #[.pointer a,.slice b.a b.len b.cap] [] c d
def WZ.c (a:R2)(b:Hp)(c:Sl->Hp->Prop):=R1 190 #[.pointer a] [.one .s] b c
def Yy.c (a:R2)(b:Int)(c:Hp)(d:Sl->Int->Hp->Prop):=R1 191 #[.pointer a,.I b] [.one .s,.I] c d
def W8.c (a:R2)(b c:Int)(d:Hp)(e:aN):=R1 192 #[.pointer a,.I b,.I c] [.I] d e
def XG.c (a:R2)(b c:Int)(d:Hp)(e:aN):=R1 193 #[.pointer a,.I b,.I c] [.I] d e
def Yw.c (a:R2)(b:Hp)(c:Sl->Hp->Prop):=R1 194 #[.pointer a] [.one .s] b c
def Xj.c (a:R2)(b:Int)(c:Hp)(d:aN):=R1 195 #[.pointer a,.I b] [.I] c d
def XA.c (a:R2)(b c:Int)(d:Hp)(e:aN):=R1 196 #[.pointer a,.I b,.I c] [.I] d e
def YF.c (a:R2)(b c:Int)(d:Hp)(e:aN):=R1 197 #[.pointer a,.I b,.I c] [.I] d e
def Xo.c (a:R2)(b:Hp)(c:Sl->Hp->Prop):=R1 198 #[.pointer a] [.one .s] b c
def WE.c (a:R2)(b:Int)(c:Sl)(d:Hp)(e:aN):=R1 199 #[.pointer a,.I b,.slice c.a c.len c.cap] [.I] d e
def Yv.c (a:R2)(b:Hp)(c:aO):=R1 200 #[.pointer a] [.one .b] b c
def XI.c (a:Sl)(b:Int)(c:Hp)(d:Sl->Hp->Prop):=R1 201 #[.slice a.a a.len a.cap,.I b] [.one .s] c d
def Yz.c (a:R2)(b:Int)(c:Hp)(d:aN):=R1 202 #[.pointer a,.I b] [.I] c d
def Wn.c (a:Sl)(b c:Bool)(d:Hp)(e:aN):=R1 203 #[.slice a.a a.len a.cap,.agg #[.bool b,.bool c]] [.I] d e
def Zq.c (a:R2)(b c:Int)(d:Hp)(e:aP):=R1 204 #[.pointer a,.I b,.I c] [] d e
def Xw.c (a:R2)(b:Int)(c:Hp)(d:Option Addr->Int->Hp->Prop):=R1 211 #[.pointer a,.I b] [.one .p,.I] c d
def WY.c (a:R2)(b:Int)(c:Hp)(d:aN):=R1 212 #[.pointer a,.I b] [.I] c d
def WD.c (a:R2)(b:Hp)(c:Sl->Int->Hp->Prop):=R1 213 #[.pointer a] [.one .s,.I] b c
def Xf.c (a:R2)(b:Int)(c:Hp)(d:Sl->Int->Hp->Prop):=R1 214 #[.pointer a,.I b] [.one .s,.I] c d
def YS.c (a:R2)(b c d:Int)(e:Hp)(f:Int->Int->Hp->Prop):=R1 215 #[.pointer a,.I b,.I c,.I d] [.I,.I] e f
def Y3.c (a:R2)(b:Int)(c:Hp)(d:aN):=R1 216 #[.pointer a,.I b] [.I] c d
def W1.c (a:Sl)(b:Hp)(c:aP):=R1 217 #[.slice a.a a.len a.cap] [] b c
def W3.c (a:R2)(b:Sl)(c:Hp)(d:aN):=R1 218 #[.pointer a,.slice b.a b.len b.cap] [.I] c d
def Xe.c (a:R2)(b:Int)(c:Hp)(d:Sl->Hp->Prop):=R1 219 #[.pointer a,.I b] [.one .s] c d
def Xp.c (a:R2)(b:Fv)(c:Hp)(d:Sl->Hp->Prop):=R1 220 #[.pointer a,.func (.func b.f) b.first b.captured] [.one .s] c d
def XE.c (a:R2)(b:Int)(c:Hp)(d:Sl->Hp->Prop):=R1 221 #[.pointer a,.I b] [.one .s] c d
def WL.c (a:R2)(b:Int)(c:Sl)(d:Hp)(e:Bool->Int->Hp->Prop):=R1 222 #[.pointer a,.I b,.slice c.a c.len c.cap] [.one .b,.I] d e
def YJ.c (a:R2)(b:Int)(c:Hp)(d:Sl->Hp->Prop):=R1 223 #[.pointer a,.I b] [.one .s] c d
def XY.c (a:R2)(b c:Int)(d:Hp)(e:aN):=R1 224 #[.pointer a,.I b,.I c] [.I] d e
def XD.c (a:R2)(b c:Int)(d:Hp)(e:aN):=R1 225 #[.pointer a,.I b,.I c] [.I] d e
def Yf.c (a:R2)(b c:Int)(d:Hp)(e:aN):=R1 226 #[.pointer a,.I b,.I c] [.I] d e
def Wf.c (a:Sl)(b:Fv)(c:Hp)(d:Sl->Hp->Prop):=R1 227 #[.slice a.a a.len a.cap,.func (.func b.f) b.first b.captured] [.one .s] c d
def Yc.c (a b:Int)(c:R2)(d:Addr)(e:Hp)(f:aO):=R1 228 #[.agg #[.I a,.I b,.pointer c],.pointer (some d)] [.one .b] e f
def XN.c (a:R2)(b:Hp)(c:aN):=R1 229 #[.pointer a] [.I] b c
def ZL.c (a:Sl)(b:Int)(c:Hp)(d:aN):=R1 230 #[.slice a.a a.len a.cap,.I b] [.I] c d
def Xm.c (a:R2)(b:Int)(c:Hp)(d:Sl->Hp->Prop):=R1 231 #[.pointer a,.I b] [.one .s] c d
def WR.c (a:Sl)(b:Fv)(c:Hp)(d:aP):=R1 232 #[.slice a.a a.len a.cap,.func (.func b.f) b.first b.captured] [] c d
def XL.c (a b:Int)(c:Addr)(d:Hp)(e:aN):=R1 233 #[.I a,.I b,.pointer (some c)] [.I] d e
def QF.c (a:Sl)(b:Hp)(c:aN):=R1 234 #[.slice a.a a.len a.cap] [.I] b c
def Xs.c (a:R2)(b c d:Int)(e:Sl)(f:Hp)(g:aN):=R1 235 #[.pointer a,.I b,.I c,.I d,.slice e.a e.len e.cap] [.I] f g
def XV.c (a:R2)(b c:Int)(d e:Bool)(f:Hp)(g:aN):=R1 236 #[.pointer a,.I b,.I c,.agg #[.bool d,.bool e]] [.I] f g
def X2.c (a:R2)(b:Int)(c:Hp)(d:Sl->Hp->Prop):=R1 237 #[.pointer a,.I b] [.one .s] c d
def XZ.c (a:R2)(b:Int)(c:Hp)(d:Sl->Int->Hp->Prop):=R1 238 #[.pointer a,.I b] [.one .s,.I] c d
def Kb.c (a:Sl)(b:Hp)(c:aO):=R1 239 #[.slice a.a a.len a.cap] [.one .b] b c
def Qu.c (a:Sl)(b:Int)(c:Hp)(d:aP):=R1 240 #[.slice a.a a.len a.cap,.I b] [] c d
def Ym.c (a:R2)(b c:Int)(d:Hp)(e:aN):=R1 241 #[.pointer a,.I b,.I c] [.I] d e
def XR.c (a:R2)(b:Int)(c:Hp)(d:aO):=R1 242 #[.pointer a,.I b] [.one .b] c d
def Zl.c (a:R2)(b c:Int)(d:Hp)(e:aP):=R1 243 #[.pointer a,.I b,.I c] [] d e
def XM.c (a:R2)(b:Fv)(c:Hp)(d:Sl->Hp->Prop):=R1 244 #[.pointer a,.agg #[.func (.func b.f) b.first b.captured]] [.one .s] c d
def XK.c (a:R2)(b:Hp)(c:aN):=R1 245 #[.pointer a] [.I] b c
def Y9.c (a:R2)(b:Sl)(c:Hp)(d:Sl->Int->Hp->Prop):=R1 246 #[.pointer a,.slice b.a b.len b.cap] [.one .s,.I] c d
def Wx.c (a:R2)(b:Hp)(c:Option Addr->Hp->Prop):=R1 247 #[.pointer a] [.one .p] b c
def WA.c (a:R2)(b:Hp)(c:Option Addr->Hp->Prop):=R1 248 #[.pointer a] [.one .p] b c
def ZD.c (a:R2)(b:Int)(c:Hp)(d:Option Addr->Hp->Prop):=R1 250 #[.pointer a,.I b] [.one .p] c d
def Y5.c (a:R2)(b:Hp)(c:Int->Bool->Hp->Prop):=R1 251 #[.pointer a] [.I,.one .b] b c
def X0.c (a:R2)(b c:Int)(d:Hp)(e:Int->Int->Hp->Prop):=R1 252 #[.pointer a,.I b,.I c] [.I,.I] d e
def Y4.c (a:R2)(b:Int)(c:Hp)(d:aO):=R1 253 #[.pointer a,.I b] [.one .b] c d
def XO.c (a:R2)(b c:Int)(d:Hp)(e:aN):=R1 254 #[.pointer a,.I b,.I c] [.I] d e
def Yk.c (a:R2)(b c d:Int)(e:Hp)(f:aN):=R1 255 #[.pointer a,.I b,.I c,.I d] [.I] e f
def KK.c (a b c d:Int)(e:Hp)(f:Option Addr->Int->Hp->Prop):=R1 256 #[.I a,.agg #[.I b,.I c,.I d]] [.one .p,.I] e f
def Wb.c (a:Sl)(b:Int)(c:Fv)(d:Hp)(e:Int->Bool->Hp->Prop):=R1 257 #[.slice a.a a.len a.cap,.I b,.func (.func c.f) c.first c.captured] [.I,.one .b] d e
def YZ.c (a b:Int)(c:R2)(d:Int)(e:Hp)(f:aN):=R1 258 #[.agg #[.I a,.I b,.pointer c],.I d] [.I] e f
def Wh.c (a:Sl)(b:Int)(c:Sl)(d:Hp)(e:Sl->Hp->Prop):=R1 259 #[.slice a.a a.len a.cap,.I b,.slice c.a c.len c.cap] [.one .s] d e
def Xl.c (a:Sl)(b:Hp)(c:Sl->Hp->Prop):=R1 260 #[.slice a.a a.len a.cap] [.one .s] b c
def Z2.c (a:Sl)(b:Fv)(c:Hp)(d:aP):=R1 261 #[.slice a.a a.len a.cap,.func (.func b.f) b.first b.captured] [] c d
def W9.c (a:R2)(b:Int)(c:Hp)(d:Bool->Int->Hp->Prop):=R1 263 #[.pointer a,.I b] [.one .b,.I] c d
def Xd.c (a:R2)(b:Sl)(c:Hp)(d:Bool->Int->Hp->Prop):=R1 264 #[.pointer a,.slice b.a b.len b.cap] [.one .b,.I] c d
def Yq.c (a:R2)(b c:Int)(d:Hp)(e:aP):=R1 265 #[.pointer a,.I b,.I c] [] d e
def Wi.c (a:Sl)(b:Fv)(c:Hp)(d:aN):=R1 266 #[.slice a.a a.len a.cap,.func (.func b.f) b.first b.captured] [.I] c d
def WP.c (a:Sl)(b c d:Int)(e:Fv)(f:Hp)(g:aP):=R1 267 #[.slice a.a a.len a.cap,.I b,.I c,.I d,.func (.func e.f) e.first e.captured] [] f g
def Wz.c (a:Sl)(b:Fv)(c:Hp)(d:aO):=R1 268 #[.slice a.a a.len a.cap,.func (.func b.f) b.first b.captured] [.one .b] c d
def YK.c (a:Int)(b:Addr)(c:Hp)(d:aO):=R1 269 #[.I a,.pointer (some b)] [.one .b] c d
def Wo.c (a:Sl)(b:Int)(c:Hp)(d:aO):=R1 270 #[.slice a.a a.len a.cap,.I b] [.one .b] c d
def YV.c (a:R2)(b c:Int)(d:Hp)(e:Sl->Int->Hp->Prop):=R1 271 #[.pointer a,.I b,.I c] [.one .s,.I] d e
def YT.c (a:R2)(b c:Int)(d e:Bool)(f:Hp)(g:aP):=R1 272 #[.pointer a,.I b,.I c,.agg #[.bool d,.bool e]] [] f g
def Xy.c (a:R2)(b:Int)(c:Hp)(d:Int->Int->Bool->Hp->Prop):=R1 273 #[.pointer a,.I b] [.I,.I,.one .b] c d
def WQ.c (a:Sl)(b:Hp)(c:Sl->Hp->Prop):=R1 274 #[.slice a.a a.len a.cap] [.one .s] b c
def ZK.c (a:R2)(b:Int)(c:Hp)(d:aN):=R1 275 #[.pointer a,.I b] [.I] c d
def W6.c (a b c d:Int)(e:Hp)(f:aO):=R1 276 #[.agg #[.I a,.I b],.agg #[.I c,.I d]] [.one .b] e f
def ZE.c (a:R2)(b:Hp)(c:Int->Int->Hp->Prop):=R1 277 #[.pointer a] [.I,.I] b c
def X4.c (a:Sl)(b:Hp)(c:aN):=R1 278 #[.slice a.a a.len a.cap] [.I] b c
def Qt.c (a:Option Nat)(b:Hp)(c:Fv->Hp->Prop):=R1 279 #[.map a] [.one .fn] b c
def Zp.c (a:R2)(b c:Int)(d:Hp)(e:aN):=R1 280 #[.pointer a,.I b,.I c] [.I] d e
def Ye.c (a:R2)(b:Int)(c:Hp)(d:aN):=R1 281 #[.pointer a,.I b] [.I] c d
def Kz.c (a:Sl)(b:Int)(c:Hp)(d:aP):=R1 283 #[.slice a.a a.len a.cap,.I b] [] c d
def YH.c (a:R2)(b:Int)(c:Hp)(d:Bool->Int->Hp->Prop):=R1 285 #[.pointer a,.I b] [.one .b,.I] c d
def Zi.c (a:R2)(b c:Int)(d:Hp)(e:aP):=R1 286 #[.pointer a,.I b,.I c] [] d e
def Wr.c (a:Sl)(b c:Int)(d:Fv)(e:Hp)(f:aP):=R1 287 #[.slice a.a a.len a.cap,.I b,.I c,.func (.func d.f) d.first d.captured] [] e f
def W0.c (a:Sl)(b:Fv)(c:Hp)(d:aN):=R1 295 #[.slice a.a a.len a.cap,.func (.func b.f) b.first b.captured] [.I] c d
def WJ.c (a:Sl)(b:Int)(c:Hp)(d:aN):=R1 296 #[.slice a.a a.len a.cap,.I b] [.I] c d
def Yg.c (a:R2)(b:Int)(c:Hp)(d:Int->Int->Hp->Prop):=R1 297 #[.pointer a,.I b] [.I,.I] c d
def Zu.c (a:R2)(b:Int)(c:Sl)(d:Hp)(e:aP):=R1 298 #[.pointer a,.I b,.slice c.a c.len c.cap] [] d e
def Wg.c (a:Sl)(b:Fv)(c:Hp)(d:aO):=R1 300 #[.slice a.a a.len a.cap,.func (.func b.f) b.first b.captured] [.one .b] c d
def YO.c (a b:Bool)(c:Hp)(d:aO):=R1 301 #[.agg #[.bool a,.bool b]] [.one .b] c d
def Wm.c (a:Sl)(b:Fv)(c:Hp)(d:aN):=R1 314 #[.slice a.a a.len a.cap,.func (.func b.f) b.first b.captured] [.I] c d
set_option maxRecDepth 100000
def Zk.h:Hn:=.q .o1 (.q (.q .o3 .aK) (.q .o1 (.q (.q .o6 (.k (.loop [(3,.I),(14,.I)] (.q .o1 (.q (.c .l .l) (.q (.k (.q .o5 .o7)) .o2)))))) .aL)))
abbrev _root_.aQ(a:Addr)(n:Nat)(h:Hp)(K:Int->Prop):Prop:=fL .i64 (a.add n) h K
abbrev _root_.aR(a:Addr)(n:Nat)(v:Value)(h:Hp)(K:Hp->Prop):Prop:=cY (a.add n) v h K
abbrev _root_.aX(a:Addr)(n:Nat)(h:Hp)(K:Sl->Prop):Prop:=kG (a.add n) h K
abbrev _root_.aY(a:Addr)(n:Nat)(h:Hp)(K:Option Addr->Prop):Prop:=fY (a.add n) h K
abbrev _root_.aZ(a:Addr)(n:Nat)(h:Hp)(K:Bool->Prop):Prop:=mM (a.add n) h K
abbrev _root_.bA(a:Addr)(n:Nat)(h:Hp)(K:Value->Prop):Prop:=Al (a.add n) h K
abbrev _root_.bB(a:Addr)(n:Nat)(h:Hp)(K:Option Nat->Prop):Prop:=qc (a.add n) h K
abbrev _root_.bC(a:Addr)(n:Nat)(h:Hp)(K:ByteArray->Prop):Prop:=Bh (a.add n) h K
abbrev _root_.bD(p:Option Addr)(n:Nat)(h:Hp)(K:Int->Prop):Prop:=bQ p λa=>fL .i64 (a.add n) h K
abbrev _root_.bE(p:Option Addr)(n:Nat)(h:Hp)(K:Sl->Prop):Prop:=bQ p λa=>kG (a.add n) h K
abbrev _root_.bF(p:Option Addr)(n:Nat)(h:Hp)(K:Option Addr->Prop):Prop:=bQ p λa=>fY (a.add n) h K
abbrev _root_.bG(p:Option Addr)(n:Nat)(h:Hp)(K:Bool->Prop):Prop:=bQ p λa=>mM (a.add n) h K
abbrev _root_.bH(p:Option Addr)(n:Nat)(h:Hp)(K:Value->Prop):Prop:=bQ p λa=>Al (a.add n) h K
abbrev _root_.bI(p:Option Addr)(n:Nat)(h:Hp)(K:Option Nat->Prop):Prop:=bQ p λa=>qc (a.add n) h K
abbrev _root_.bJ(p:Option Addr)(n:Nat)(h:Hp)(K:ByteArray->Prop):Prop:=bQ p λa=>Bh (a.add n) h K
abbrev _root_.aS(S:Hp->Prop)(a:Addr)(n:Nat)(K:Int->Prop):Prop:=gW S bN (a.add n) K
abbrev _root_.aT(S:Hp->Prop)(a:Addr)(n:Nat)(K:Sl->Prop):Prop:=gW S .s (a.add n) K
abbrev _root_.aU(S:Hp->Prop)(a:Addr)(n:Nat)(K:Option Addr->Prop):Prop:=gW S .p (a.add n) K
abbrev _root_.bL(e:Int)(K:Int->Prop):Prop:=Ar .i64 e K
abbrev _root_.bM(a:Addr)(h:Hp)(K:Int->Prop):Prop:=fL .i64 a h K
abbrev _root_.aV(c:Array Value)(t:Nat)(h:Hp)(K:Addr->Hp->Prop):Prop:=Nw (.cells c t (0,0)) h K
theorem Zk.o {a:R2}{b:Hp}{c:aN}(d:XQ.c a b λd e=>If (!d) (c 0 e) (bE a 1 e λg=>Xb [bN,bN] (λh=>h 0 0 e) λi (j:Int) (k:Int) l=>If (k<((g.len:Nat):Int)) (Ix g.a g.len k 1 λm=>qc m l λn=>rF .i64 .b n l λo=>Nn k<|bL (o*2^(min k.toNat IntKind.i64.bits)) λp=>bL (j+p) λq=>bL (k+1) λr=>i q r l) (c j l))):Zk.c a b c:=Wa Tryz.func110 (x:=Zk.h) (R0 d)
def XQ.h:Hn:=.q .o1 (.q (.cV (.seq [.op,.op,.op,.dB true 5 (RI.ops 5),.op])) .l)
theorem XQ.o {a:R2}{b:Hp}{c:aO}(d:bZ (λd e=>c d e) λf=>If (!a.isNone) (bD a 0 b λh=>f (decide (h>0)) b) (f false b)):XQ.c a b c:=Wa Tryz.func142 (x:=XQ.h) (R0 d)
def Q9.h:Hn:=.q .o2 (.q (.q (.cV (.seq [.op,.op,.op,.dB false 2 [.op,.op]])) .aJ) (.q .o4 (.q (.q .o1 (.k (.loop [(5,.I)] (.q (.q .o3 (.c .l .l)) (.q (.k (.o 11)) .o3))))) (.q .o3 .l))))
theorem Q9.o {a:Int}{b:Hp}{c:Option Addr->Int->Hp->Prop}(d:bZ (λd e=>If d (c none 1 e) (Nw (.cells #[.I a,.slice none 0 0] 218 (0,0)) e λf g=>Xb [bN] (λh=>h 1 g) λi (j:Int) k=>If (j<=a) (bQ (some f) λl=>kG (l.add 1) k λm=>Nw (.map #[] 0) k λn o=>Nw (.cells #[.map (some n.block)] 219 (0,0)) o λp q=>App m 1 8 219 [.map none] ⟨some p,1,1⟩ q λr s=>bQ (some f) λt=>cY (t.add 1) (.slice r.a r.len r.cap) s λu=>Ar .i64 (j*2) λv=>i v u) (c (some f) 0 k))) λw=>If (a<1) (w true b) (w (decide (a>1024)) b)):Q9.c a b c:=Wa Tryz.func154 (x:=Q9.h) (R0 d)
def XA.h:Hn:=.q .o1 (.q (.q .o5 (.q .o2 .aJ)) (.q (.q .o2 (.k (.loop [(8,.I)] (.q (.q .o5 (.c .l .l)) (.q (.k (.q .o4 .aK)) .o3))))) (.q .o4 .aM)))
theorem XA.o {a:R2}{b c:Int}{d:Hp}{e:aN}(f:Ym.c a b c d λf g=>If (f != 0) (e f g) (Xb [bN] (λh=>h b g) λi (j:Int) k=>bL (b+c) λl=>If (j<l) (XR.c a j k λm n=>If (!m) (e 4 n) (bL (j+1) λo=>i o n)) (Zl.c a b c k λp=>e 0 p))):XA.c a b c d e:=Wa Tryz.func196 (x:=XA.h) (R0 f)
def Yf.h:Hn:=.q .o1 (.q (.q .o5 (.q .o2 .aJ)) (.q (.q .o2 (.k (.loop [(8,.I)] (.q (.q .o5 (.c .l .l)) (.q (.k (.q .o3 .aK)) .o3))))) (.q .o4 .aM)))
theorem Yf.o {a:R2}{b c:Int}{d:Hp}{e:aN}(f:Ym.c a b c d λf g=>If (f != 0) (e f g) (Xb [bN] (λh=>h b g) λi (j:Int) k=>bL (b+c) λl=>If (j<l) (XR.c a j k λm n=>If m (e 9 n) (bL (j+1) λo=>i o n)) (Yq.c a b c k λp=>e 0 p))):Yf.c a b c d e:=Wa Tryz.func226 (x:=Yf.h) (R0 f)
def Ym.h:Hn:=.q .o1 (.q (.k (.q .o4 (.c .aM (.q (.cV (.seq [.op,.op,.op,.dB false 2 [.op,.op],.op,.dB false 6 (RI.ops 6),.op,.dB false 8 (RI.ops 8),.op])) .aK)))) .aM)
theorem Ym.o {a:R2}{b c:Int}{d:Hp}{e:aN}(f:XQ.c a d λf g=>If (!f) (e 5 g) (bZ (λh i=>bZ (λj k=>bZ (λl m=>If l (e 1 m) (e 0 m)) λn=>If j (n true k) (bQ a λo=>aQ o 0 k λp=>bL (p-b) λq=>n (decide (c>q)) k)) λr=>If h (r true i) (bD a 0 i λt=>r (decide (b>t)) i)) λu=>If (b<0) (u true g) (u (decide (c<1)) g))):Ym.c a b c d e:=Wa Tryz.func241 (x:=Ym.h) (R0 f)
def XR.h:Hn:=.q .o1 (.q (.q (.cV (.seq [.op,.op,.op,.op,.dB false 2 [.op,.op],.op,.dB false 6 (RI.ops 6)])) .aK) (.q .fR .aL))
theorem XR.o {a:R2}{b:Int}{c:Hp}{d:aO}(e:XQ.c a c λe f=>bZ (λg h=>bZ (λi j=>If i (d false j) (Xy.c a b j λk l m n=>d m n)) λo=>If g (o true h) (bD a 0 h λq=>o (decide (b≥q)) h)) λr=>If (!e) (r true f) (r (decide (b<0)) f)):XR.c a b c d:=Wa Tryz.func242 (x:=XR.h) (R0 e)
def Zl.h:Hn:=.q .o2 (.k (.loop [(6,.I)] (.q (.q .o5 (.c .l .l)) (.k (.q .fR (.q .o9 (.q .o5 (.q .o6 (.q (.q .o4 (.q .o3 (.c .o6 .l))) .o2)))))))))
theorem Zl.o {a:R2}{b c:Int}{d:Hp}{e:aP}(f:Xb [bN] (λf=>f b d) λg (h:Int) i=>bL (b+c) λj=>If (h<j) (Xy.c a h i λk l m n=>bQ a λo=>aX o 1 n λp=>Ix p.a p.len k 1 λq=>qc q n λr=>pD .i64 .b r l n λs=>Nn k<|bL ((1:Int)*2^(min k.toNat IntKind.i64.bits)) λt=>bL (l+t) λu=>bL (h-l) λv=>Yq.c a l v s λw=>bL (b+c) λx=>If (u>x) (bL (u-x) λy=>Yq.c a x y w λz=>g u z) (g u w)) (e i)):Zl.c a b c d e:=Wa Tryz.func243 (x:=Zl.h) (R0 f)
def X0.h:Hn:=.q .o2 (.q (.k (.q .o4 (.c .aL (.q (.cV (.seq [.op,.op,.op,.dB false 2 [.op,.op],.op,.dB false 2 [.op,.op],.op,.dB false 2 [.op,.op],.op,.dB false 5 (RI.ops 5),.op])) .aJ)))) (.q (.q .o6 (.k (.loop [(42,.I)] (.q .o1 (.q (.c .l .l) (.q (.k (.q .o5 (.q (.cV (.seq [.op,.op,.op,.op,.op,.op,.op,.dB true 3 (RI.ops 3)])) (.c (.q .o5 (.q .o4 (.q .o3 .l))) .l)))) .o2)))))) .aL))
theorem X0.o {a:R2}{b c:Int}{d:Hp}{e:Int->Int->Hp->Prop}(f:XQ.c a d λf g=>If (!f) (e 0 5 g) (bZ (λh i=>bZ (λj k=>bZ (λl m=>bZ (λn o=>If n (e 0 1 o) (bE a 1 o λq=>Xb [bN] (λr=>r 0 o) λs (t:Int) u=>If (t<((q.len:Nat):Int)) (Ix q.a q.len t 1 λv=>qc v u λw=>Nn t<|bL ((1:Int)*2^(min t.toNat IntKind.i64.bits)) λx=>bZ (λy z=>If y (Qt.c w z λaa ab=>VE.c aa ab λac ad=>X4.c ac ad λae af=>Zl.c a ae b af λag=>e ae 0 ag) (bL (t+1) λah=>s ah z)) λai=>If (x≥(if c>b then c else b)) (rF .i64 .b w u λaj=>ai (decide (aj>0)) u) (ai false u)) (e 0 6 u))) λak=>If l (ak true m) (bL (c-1) λal=>ak ((bits .and .i64 c al) != 0) m)) λam=>If j (am true k) (am (decide (c>1024)) k)) λan=>If h (an true i) (an (decide (c<1)) i)) λao=>If (b<1) (ao true g) (ao (decide (b>1024)) g))):X0.c a b c d e:=Wa Tryz.func252 (x:=X0.h) (R0 f)
def Yq.h:Hn:=.k (.loop [(1,.I),(2,.I)] (.q (.q .o2 (.c .l .l)) (.k (.q .o1 (.q (.k (.loop [(6,.I)] (.q (.q (.cV (.seq [.op,.op,.op,.op,.op,.op,.op,.op,.op,.op,.dB true 5 (RI.ops 5)])) (.c .l .l)) (.k .o3)))) (.q .o4 (.oq 10)))))))
theorem Yq.o {a:R2}{b c:Int}{d:Hp}{e:aP}(f:Xb [bN,bN] (λf=>f b c d) λg (h:Int) (i:Int) j=>If (i>0) (Xb [bN] (λk=>k 0 j) λl (m:Int) n=>bL (m+1) λo=>Nn o <| bL (m+1) λp=>Nn p<|bL ((h.fdiv (2^(min o.toNat IntKind.i64.bits)))*2^(min p.toNat IntKind.i64.bits)) λq=>bZ (λr s=>If r (bL (m+1) λt=>l t s) (Zi.c a m h s λu=>Nn m<|bL ((1:Int)*2^(min m.toNat IntKind.i64.bits)) λv=>bL (h+v) λw=>Nn m<|bL ((1:Int)*2^(min m.toNat IntKind.i64.bits)) λx=>bL (i-x) λy=>g w y u)) λz=>If (q==h) (bL (m+1) λaa=>Nn aa<|bL ((1:Int)*2^(min aa.toNat IntKind.i64.bits)) λab=>z (decide (ab<=i)) n) (z false n)) (e j)):Yq.c a b c d e:=Wa Tryz.func265 (x:=Yq.h) (R0 f)
def Xy.h:Hn:=.q .o3 (.q (.q .o6 (.k (.loop [(15,.I)] (.q .o1 (.q (.c .l .l) (.q (.k (.q .o5 (.q .o6 (.q .o3 (.c (.q .o5 .l) .l))))) .o2)))))) (.q .o3 .l))
theorem Xy.o {a:R2}{b:Int}{c:Hp}{d:Int->Int->Bool->Hp->Prop}(e:bQ a λe=>aX e 1 c λf=>Xb [bN] (λg=>g 0 c) λh (i:Int) j=>If (i<((f.len:Nat):Int)) (Ix f.a f.len i 1 λk=>qc k j λl=>Nn i <| Nn i<|bL ((b.fdiv (2^(min i.toNat IntKind.i64.bits)))*2^(min i.toNat IntKind.i64.bits)) λm=>Lk .i64 .b l m j λn=>If (n.getD false) (d i m true j) (bL (i+1) λo=>h o j)) (d 0 0 false j)):Xy.c a b c d:=Wa Tryz.func273 (x:=Xy.h) (R0 e)
def Zi.h:Hn:=.q (.k (.loop [(1,.I),(2,.I)] (.q (.q (.cV (.quiet [.op,.op,.op,.op,.op,.op,.op,.op,.op,.dB true 12 (RI.ops 12)])) (.c .l .l)) (.k (.q (.cV (.tail 11 (RI.ops 11) [.op])) (.q .o8 .o3)))))) .o9
theorem Zi.o {a:R2}{b c:Int}{d:Hp}{e:aP}(f:Xb [bN,bN] (λf=>f b c d) λg (h:Int) (i:Int) j=>bL (h+1) λk=>bE a 1 j λm=>bZ (λn o=>If n (bE a 1 o λq=>Ix q.a q.len h 1 λr=>qc r o λs=>Nn h<|bL ((1:Int)*2^(min h.toNat IntKind.i64.bits)) λt=>pD .i64 .b s (bits .xor .i64 i t) o λu=>bL (h+1) λv=>Nn v <| bL (h+1) λw=>Nn w<|bL ((i.fdiv (2^(min v.toNat IntKind.i64.bits)))*2^(min w.toNat IntKind.i64.bits)) λx=>bL (h+1) λy=>g y x u) (bE a 1 o λaa=>Ix aa.a aa.len h 1 λab=>qc ab o λac=>nO .i64 .b ac i true o λad=>e ad)) λae=>If (k<((m.len:Nat):Int)) (bE a 1 j λag=>Ix ag.a ag.len h 1 λah=>qc ah j λai=>Nn h<|bL ((1:Int)*2^(min h.toNat IntKind.i64.bits)) λaj=>Lk .i64 .b ai (bits .xor .i64 i aj) j λak=>ae (ak.getD false) j) (ae false j)):Zi.c a b c d e:=Wa Tryz.func286 (x:=Zi.h) (R0 f)
end Go.Proofs
namespace Go.Proofs
open Go.Vc
set_option maxRecDepth 100000
def Wc.h:Hn:=.q .o1 (.q (.q .o2 .aK) (.q .o4 .l))
theorem Wc.o {a:Sl}{b:Hp}{c:Sl->Hp->Prop}(d:If a.a.isNone (c ⟨none,0,0⟩ b) (aV #[] 31 b λd e=>App ⟨some d,0,0⟩ 3 24 31 [.I 0,.I 0,.I 0] a e λf g=>c f g)):Wc.c a b c:=Wa Tryz.func68 (x:=Wc.h) (R0 d)
def Wl.h:Hn:=.q .o1 (.q (.q .o3 (.k (.loop [(8,.I)] (.q .o1 (.q (.c .l .l) (.q (.k (.q .o2 (.q .o6 .aJ))) .o2)))))) .aM)
theorem Wl.o {a:Sl}{b:Fv}{c:Hp}{d:aN}(e:Xb [bN] (λe=>e 0 c) λf (g:Int) h=>If (g<((a.len:Nat):Int)) (Ix a.a a.len g 3 λi=>aQ i 0 h λj=>aQ i 1 h λk=>aQ i 2 h λl=>V2 Tryz.prog b [.agg #[.I j,.I k,.I l]] [.one .b] h λm n=>If m (d g n) (bL (g+1) λo=>f o n)) (d (-1) h)):Wl.c a b c d:=Wa Tryz.func79 (x:=Wl.h) (R0 e)
def WH.h:Hn:=.q .o1 (.q (.q .o2 .aK) (.q .o4 .l))
theorem WH.o {a:Sl}{b:Hp}{c:Sl->Hp->Prop}(d:If a.a.isNone (c ⟨none,0,0⟩ b) (aV #[] 3 b λd e=>App ⟨some d,0,0⟩ 1 8 3 [.I 0] a e λf g=>c f g)):WH.c a b c:=Wa Tryz.func90 (x:=WH.h) (R0 d)
def Wk.h:Hn:=.q .o1 (.q (.q .o3 (.k (.loop [(8,.I)] (.q .o1 (.q (.c .l .l) (.q (.k (.q .o2 (.q .o6 .aJ))) .o2)))))) .aM)
theorem Wk.o {a:Sl}{b:Fv}{c:Hp}{d:aN}(e:Xb [bN] (λe=>e 0 c) λf (g:Int) h=>If (g<((a.len:Nat):Int)) (Ix a.a a.len g 1 λi=>fY i h λj=>V2 Tryz.prog b [.pointer j] [.one .b] h λk l=>If k (d g l) (bL (g+1) λm=>f m l)) (d (-1) h)):Wk.c a b c d:=Wa Tryz.func111 (x:=Wk.h) (R0 e)
def ZT.h:Hn:=.q .o1 (.q (.c .l .l) (.q .o3 .l))
theorem ZT.o {a:Int}{b:Hp}{c:aN}(d:ZJ.c a b λd e=>c d e):ZT.c a b c:=Wa Tryz.func129 (x:=ZT.h) (R0 d)
def XB.h:Hn:=.q .o1 (.q .o1 (.q (.q .o3 (.k (.loop [(3,.I),(11,.I)] (.q .o1 (.q (.c .l .l) (.q (.k (.q .o3 (.q .o5 (.q .o2 (.c .o2 .l))))) .o2)))))) (.q .o3 (.q (.q .o3 (.k (.loop [(6,.one .s),(27,.I)] (.q .o1 (.q (.c .l .l) (.q (.k (.q .o3 .o4)) .o2)))))) .aL))))
theorem XB.o {a:Sl}{b:Hp}{c:Sl->Hp->Prop}(d:Xb [bN,bN] (λd=>d 0 0 b) λe (f:Int) (g:Int) h=>If (g<((a.len:Nat):Int)) (Ix a.a a.len g 1 λi=>kG i h λj=>bL (f+((j.len:Nat):Int)) λk=>If (k<0) (False) (bL (g+1) λl=>e k l h)) (XI.c ⟨none,0,0⟩ f h λm n=>Xb [.s,bN] (λo=>o m 0 n) λp (q:Sl) (r:Int) s=>If (r<((a.len:Nat):Int)) (Ix a.a a.len r 1 λt=>kG t s λu=>App q 1 8 3 [.I 0] u s λv w=>bL (r+1) λx=>p v x w) (c q s))):XB.c a b c:=Wa Tryz.func140 (x:=XB.h) (R0 d)
def Wj.h:Hn:=.q .o2 (.q .o5 .l)
theorem Wj.o {a:Sl}{b c:Bool}{d:Hp}{e:aO}(f:aV #[.bool b,.bool c] 160 d λf g=>aZ f 0 g λh=>aZ f 1 g λi=>Wn.c a h i g λj k=>e (decide (j≥0)) k):Wj.c a b c d e:=Wa Tryz.func147 (x:=Wj.h) (R0 f)
def ZJ.h:Hn:=.q .o1 (.kX [(0,.one (.i .u64)),(2,.I)] (.q .o2 (.c (.q .o3 .o1) .l)) (.kX [(0,.one (.i .u64)),(2,.I)] (.q .o2 (.c (.q .o3 .o3) .l)) (.kX [(0,.one (.i .u64)),(2,.I)] (.q .o2 (.c (.q .o3 .o3) .l)) (.q .o7 .l))))
theorem ZJ.o {a:Int}{b:Hp}{c:aN}(d:Jn [(.i .u64),bN] (λ(d:Int) (e:Int) f=>Jn [(.i .u64),bN] (λ(g:Int) (h:Int) i=>Jn [(.i .u64),bN] (λ(j:Int) (k:Int) l=>Ar .u8 j λm=>MA (ByteArray.mk #[0,1,2,2,3,3,3,3,4,4,4,4,4,4,4,4,5,5,5,5,5,5,5,5,5,5,5,5,5,5,5,5,6,6,6,6,6,6,6,6,6,6,6,6,6,6,6,6,6,6,6,6,6,6,6,6,6,6,6,6,6,6,6,6,7,7,7,7,7,7,7,7,7,7,7,7,7,7,7,7,7,7,7,7,7,7,7,7,7,7,7,7,7,7,7,7,7,7,7,7,7,7,7,7,7,7,7,7,7,7,7,7,7,7,7,7,7,7,7,7,7,7,7,7,7,7,7,7,8,8,8,8,8,8,8,8,8,8,8,8,8,8,8,8,8,8,8,8,8,8,8,8,8,8,8,8,8,8,8,8,8,8,8,8,8,8,8,8,8,8,8,8,8,8,8,8,8,8,8,8,8,8,8,8,8,8,8,8,8,8,8,8,8,8,8,8,8,8,8,8,8,8,8,8,8,8,8,8,8,8,8,8,8,8,8,8,8,8,8,8,8,8,8,8,8,8,8,8,8,8,8,8,8,8,8,8,8,8,8,8,8,8,8,8,8,8,8,8,8,8,8,8,8,8,8,8]) m λn=>bL n λo=>bL (k+o) λp=>c p l) λq=>If (g≥256) (Nn (8:Int) <| bL (h+8) λr=>q (g.fdiv (2^(min (8:Int).toNat IntKind.u64.bits))) r i) (q g h i)) λs=>If (d≥65536) (Nn (16:Int) <| bL (e+16) λt=>s (d.fdiv (2^(min (16:Int).toNat IntKind.u64.bits))) t f) (s d e f)) λu=>If (a≥4294967296) (Nn (32:Int) <| u (a.fdiv (2^(min (32:Int).toNat IntKind.u64.bits))) 32 b) (u a 0 b)):ZJ.c a b c:=Wa Tryz.func168 (x:=ZJ.h) (R0 d)
def Wp.h:Hn:=.q .o1 (.q (.q .o2 .aK) (.q .o4 .l))
theorem Wp.o {a:Sl}{b:Hp}{c:Sl->Hp->Prop}(d:If a.a.isNone (c ⟨none,0,0⟩ b) (aV #[] 130 b λd e=>App ⟨some d,0,0⟩ 2 32 130 [.I 0,.slice none 0 0] a e λf g=>c f g)):Wp.c a b c:=Wa Tryz.func185 (x:=Wp.h) (R0 d)
def XI.h:Hn:=.q .o1 (.kX [] (.q .o2 (.c .o2 .l)) (.q (.q .o8 (.q .o2 (.c .fR .l))) .aL))
theorem XI.o {a:Sl}{b:Int}{c:Hp}{d:Sl->Hp->Prop}(e:Jn [] (λe=>bL (((a.cap:Nat):Int)-((a.len:Nat):Int)) λf=>bL (b-f) λg=>If (g>0) (eX a 1 0 ((a.cap:Nat):Int) (a.cap:Nat) λh=>vB h 1 8 3 [.I 0] g e λi j=>eX i 1 0 ((a.len:Nat):Int) (i.cap:Nat) λk=>d k j) (d a e)) λl=>If (b<0) (False) (l c)):XI.c a b c d:=Wa Tryz.func201 (x:=XI.h) (R0 e)
def Wn.h:Hn:=.q .o2 (.q (.q .o3 (.k (.loop [(8,.I)] (.q .o1 (.q (.c .l .l) (.q (.k (.q .o2 (.q (.oq 6) .aJ))) .o2)))))) .aM)
theorem Wn.o {a:Sl}{b c:Bool}{d:Hp}{e:aN}(f:aV #[.bool b,.bool c] 160 d λf g=>Xb [bN] (λh=>h 0 g) λi (j:Int) k=>If (j<((a.len:Nat):Int)) (aZ f 0 k λl=>aZ f 1 k λm=>Ix a.a a.len j 2 λn=>aZ n 0 k λo=>aZ n 1 k λp=>If ((l==o)&&((m==p)&&true)) (e j k) (bL (j+1) λq=>i q k)) (e (-1) k)):Wn.c a b c d e:=Wa Tryz.func203 (x:=Wn.h) (R0 f)
def W1.h:Hn:=.q .o5 (.k (.loop [(2,.I),(3,.I)] (.q (.q .o3 (.c .l .l)) (.q (.k (.cV (.held true [13,15] (.tk [0,1,2,3,4,5,6,7,8,9,10,11,12] (.all [(13,.take 14 (.all [(15,.done)]))]))))) .o6))))
theorem W1.o {a:Sl}{b:Hp}{c:aP}(d:bL (((a.len:Nat):Int)-1) λd=>Xb [bN,bN] (λe=>e 0 d b) λf (g:Int) (h:Int) i=>If (g<h) (dT i λj=>Ix a.a a.len h 1 λk=>gW j bN k λ(l:Int)=>Ix a.a a.len g 1 λm=>gW j bN m λ(n:Int)=>Ix a.a a.len g 1 λo=>cY o (.I l) i λp=>Ix a.a a.len h 1 λq=>cY q (.I n) p λr=>bL (g+1) λs=>bL (h-1) λt=>f s t r) (c i)):W1.c a b c:=Wa Tryz.func217 (x:=W1.h) (R0 d)
def Wf.h:Hn:=.q .o1 (.q .o4 (.q (.q .o2 .aJ) (.q (.q .o3 (.k (.loop [(5,.I),(6,.I)] (.q (.q .o4 (.c .l .l)) (.q (.k (.q .o6 (.q .o4 (.c (.q .o5 .o3) .l)))) .o3))))) (.q .o4 (.q .o4 .l)))))
theorem Wf.o {a:Sl}{b:Fv}{c:Hp}{d:Sl->Hp->Prop}(e:Wi.c a b c λe f=>If (e==(-1)) (d a f) (bL (e+1) λg=>Xb [bN,bN] (λh=>h e g f) λi (j:Int) (k:Int) l=>If (k<((a.len:Nat):Int)) (Ix a.a a.len k 3 λm=>aQ m 0 l λn=>aQ m 1 l λo=>aY m 2 l λp=>aV #[.I 0,.I 0,.pointer none] 210 l λq r=>aR q 0 (.I n) r λs=>aR q 1 (.I o) s λt=>aR q 2 (.pointer p) t λu=>aQ q 0 u λv=>aQ q 1 u λw=>aY q 2 u λx=>V2 Tryz.prog b [.agg #[.I v,.I w,.pointer x]] [.one .b] u λy z=>If (!y) (aQ q 0 z λaa=>aQ q 1 z λab=>aY q 2 z λac=>Ix a.a a.len j 3 λad=>aR ad 0 (.I aa) z λae=>aR ad 1 (.I ab) ae λaf=>aR ad 2 (.pointer ac) af λag=>bL (j+1) λah=>bL (k+1) λai=>i ah ai ag) (bL (k+1) λaj=>i j aj z)) (eX a 3 j (a.len:Nat) (a.cap:Nat) λak=>DD ak [.I 0,.I 0,.pointer none] l λal=>eX a 3 0 j (a.cap:Nat) λam=>d am al))):Wf.c a b c d:=Wa Tryz.func227 (x:=Wf.h) (R0 e)
def WR.h:Hn:=.q .o3 .o7
theorem WR.o {a:Sl}{b:Fv}{c:Hp}{d:aP}(e:Ar .u64 ((a.len:Nat):Int) λe=>ZT.c e c λf g=>WP.c a 0 ((a.len:Nat):Int) f b g λh=>d h):WR.c a b c d:=Wa Tryz.func232 (x:=WR.h) (R0 e)
def Wb.h:Hn:=.q .o2 (.q .o3 (.q .o3 (.q (.k (.loop [(9,.I),(10,.I)] (.q (.q .o3 (.c .l .l)) (.k (.q .o7 (.q .o8 (.c .o3 .o2))))))) (.q (.cV (.seq [.op,.op,.op,.op,.op,.dB true 8 (RI.ops 8),.op,.op])) .l))))
theorem Wb.o {a:Sl}{b:Int}{c:Fv}{d:Hp}{e:Int->Bool->Hp->Prop}(f:Xb [bN,bN] (λf=>f 0 ((a.len:Nat):Int) d) λg (h:Int) (i:Int) j=>If (h<i) (bL (h+i) λk=>Ar .u64 k λl=>Nn (1:Int) <| bL (l.fdiv (2^(min (1:Int).toNat IntKind.u64.bits))) λm=>Ix a.a a.len m 3 λn=>aQ n 0 j λo=>aQ n 1 j λp=>aY n 2 j λq=>V2 Tryz.prog c [.agg #[.I o,.I p,.pointer q],.I b] [.I] j λr s=>If (r<0) (bL (m+1) λt=>g t i s) (g h m s)) (bZ (λu v=>e h u v) λw=>If (h<((a.len:Nat):Int)) (Ix a.a a.len h 3 λx=>aQ x 0 j λy=>aQ x 1 j λz=>aY x 2 j λaa=>V2 Tryz.prog c [.agg #[.I y,.I z,.pointer aa],.I b] [.I] j λab ac=>w (ab==0) ac) (w false j))):Wb.c a b c d e:=Wa Tryz.func257 (x:=Wb.h) (R0 f)
def Wh.h:Hn:=.q .o1 (.q .o3 (.q .o3 (.q (.q .o2 .aJ) (.q .o3 (.q (.q .o3 (.c (.q .o4 .l) .l)) (.q (.q .o6 (.c (.q .fR (.q .o5 (.q (.cV (.tail 8 (RI.ops 8) [.op])) .aL))) .l)) (.q .o6 (.q (.q .o8 (.c (.q (.cV (.tail 8 (RI.ops 8) [.op])) (.q .o5 .aL)) .l)) (.q .o5 (.q .o5 .aL))))))))))
theorem Wh.o {a:Sl}{b:Int}{c:Sl}{d:Hp}{e:Sl->Hp->Prop}(f:eX a 3 b (a.len:Nat) (a.cap:Nat) λf=>If (((c.len:Nat):Int)==0) (e a d) (If (b==((a.len:Nat):Int)) (App a 3 24 210 [.I 0,.I 0,.pointer none] c d λg h=>e g h) (bL (((a.len:Nat):Int)+((c.len:Nat):Int)) λi=>If (i>((a.cap:Nat):Int)) (eX a 3 0 b (a.cap:Nat) λj=>bL (((a.len:Nat):Int)+((c.len:Nat):Int)) λk=>bL (k-b) λl=>vB j 3 24 210 [.I 0,.I 0,.pointer none] l d λm n=>eX m 3 b (m.len:Nat) (m.cap:Nat) λo=>wS o 3 c n λp q=>bL (b+((c.len:Nat):Int)) λr=>eX m 3 r (m.len:Nat) (m.cap:Nat) λs=>eX a 3 b (a.len:Nat) (a.cap:Nat) λt=>wS s 3 t q λu v=>e m v) (bL (((a.len:Nat):Int)+((c.len:Nat):Int)) λw=>eX a 3 0 w (a.cap:Nat) λx=>bL (b+((c.len:Nat):Int)) λy=>eX x 3 y (x.len:Nat) (x.cap:Nat) λz=>xK Tryz.prog 282 [.slice c.a c.len c.cap,.slice z.a z.len z.cap] d λaa ab=>If (!aa) (bL (b+((c.len:Nat):Int)) λac=>eX x 3 ac (x.len:Nat) (x.cap:Nat) λad=>eX x 3 b (x.len:Nat) (x.cap:Nat) λae=>wS ad 3 ae ab λaf ag=>eX x 3 b (x.len:Nat) (x.cap:Nat) λah=>wS ah 3 c ag λai aj=>e x aj) (eX x 3 ((a.len:Nat):Int) (x.len:Nat) (x.cap:Nat) λak=>wS ak 3 c ab λal am=>eX x 3 b (x.len:Nat) (x.cap:Nat) λan=>Kz.c an ((c.len:Nat):Int) am λao=>e x ao))))):Wh.c a b c d e:=Wa Tryz.func259 (x:=Wh.h) (R0 f)
def Xl.h:Hn:=.q .o1 (.q .o7 .l)
theorem Xl.o {a:Sl}{b:Hp}{c:Sl->Hp->Prop}(d:eX a 1 0 ((a.len:Nat):Int) ((a.len:Nat):Int) λd=>c d b):Xl.c a b c:=Wa Tryz.func260 (x:=Xl.h) (R0 d)
def Wi.h:Hn:=.q .o1 (.q (.q .o3 (.k (.loop [(8,.I)] (.q .o1 (.q (.c .l .l) (.q (.k (.q .o2 (.q .o6 .aJ))) .o2)))))) .aM)
theorem Wi.o {a:Sl}{b:Fv}{c:Hp}{d:aN}(e:Xb [bN] (λe=>e 0 c) λf (g:Int) h=>If (g<((a.len:Nat):Int)) (Ix a.a a.len g 3 λi=>aQ i 0 h λj=>aQ i 1 h λk=>aY i 2 h λl=>V2 Tryz.prog b [.agg #[.I j,.I k,.pointer l]] [.one .b] h λm n=>If m (d g n) (bL (g+1) λo=>f o n)) (d (-1) h)):Wi.c a b c d:=Wa Tryz.func266 (x:=Wi.h) (R0 e)
def Wz.h:Hn:=.q .o1 (.q .o5 .l)
theorem Wz.o {a:Sl}{b:Fv}{c:Hp}{d:aO}(e:W0.c a b c λe f=>d (decide (e≥0)) f):Wz.c a b c d:=Wa Tryz.func268 (x:=Wz.h) (R0 e)
def Wo.h:Hn:=.q .o1 (.q .o5 .l)
theorem Wo.o {a:Sl}{b:Int}{c:Hp}{d:aO}(e:WJ.c a b c λe f=>d (decide (e≥0)) f):Wo.c a b c d:=Wa Tryz.func270 (x:=Wo.h) (R0 e)
def WQ.h:Hn:=.q .o1 (.q (.q .o2 .aK) (.q .o4 .l))
theorem WQ.o {a:Sl}{b:Hp}{c:Sl->Hp->Prop}(d:If a.a.isNone (c ⟨none,0,0⟩ b) (aV #[] 69 b λd e=>App ⟨some d,0,0⟩ 1 24 69 [.slice none 0 0] a e λf g=>c f g)):WQ.c a b c:=Wa Tryz.func274 (x:=WQ.h) (R0 d)
def X4.h:Hn:=.q .o1 (.kX [] (.q .o3 (.c .o2 .l)) (.q .o4 (.q (.q .o1 (.k (.loop [(3,.I),(4,.I)] (.q (.q .o4 (.c .l .l)) (.q (.k .o7) .o3))))) .aL)))
theorem X4.o {a:Sl}{b:Hp}{c:aN}(d:Jn [] (λd=>Ix a.a a.len 0 1 λe=>bM e d λf=>Xb [bN,bN] (λg=>g f 1 d) λh (i:Int) (j:Int) k=>If (j<((a.len:Nat):Int)) (Ix a.a a.len j 1 λl=>bM l k λm=>bL (j+1) λn=>h (if m<i then m else i) n k) (c i k)) λo=>If (((a.len:Nat):Int)<1) (False) (o b)):X4.c a b c:=Wa Tryz.func278 (x:=X4.h) (R0 d)
def Wr.h:Hn:=.q .o3 (.k (.loop [(8,.I)] (.q (.q .o3 (.c .l .l)) (.q (.k (.q .o2 (.k (.loop [(9,.I)] (.q (.q (.cV (.iH true [14] [(34,.one .b)] (.tk [0,1,2,3] (.split 21 (.tk [4,5,6,7,8,9,10,11,12,13] (.all [(14,.take 15 (.take 16 (.done)))])) (.take 4 (.take 5 (.take 6 (.take 7 (.take 8 (.take 9 (.take 10 (.take 11 (.take 12 (.take 13 (.all [(14,.take 15 (.take 16 (.done)))]))))))))))))))) (.c .l .l)) (.q (.k (.cV (.held true [15,17] (.take 0 (.take 1 (.take 2 (.take 3 (.take 4 (.take 5 (.take 6 (.take 7 (.take 8 (.take 9 (.take 10 (.take 11 (.take 12 (.take 13 (.take 14 (.all [(15,.take 16 (.all [(17,.done)]))]))))))))))))))))))) .o3)))))) .o3))))
theorem Wr.o {a:Sl}{b c:Int}{d:Fv}{e:Hp}{f:aP}(g:bL (b+1) λg=>Xb [bN] (λh=>h g e) λi (j:Int) k=>If (j<c) (Xb [bN] (λl=>l j k) λm (n:Int) o=>Jn [.b] (λ(p:Bool) q=>If p (dT q λr=>bL (n-1) λs=>bL (n-1) λt=>Ix a.a a.len t 1 λu=>gW r bN u λ(v:Int)=>Ix a.a a.len n 1 λw=>gW r bN w λ(x:Int)=>Ix a.a a.len n 1 λy=>cY y (.I v) q λz=>Ix a.a a.len s 1 λaa=>cY aa (.I x) z λab=>bL (n-1) λac=>m ac ab) (bL (j+1) λad=>i ad q)) λae=>dT o λaf=>If (n>b) (Ix a.a a.len n 1 λag=>gW af bN ag λ(ah:Int)=>bL (n-1) λai=>Ix a.a a.len ai 1 λaj=>gW af bN aj λ(ak:Int)=>V2 Tryz.prog d [.I ah,.I ak] [.I] o λal am=>ae (decide (al<0)) am) (ae false o)) (f k)):Wr.c a b c d e f:=Wa Tryz.func287 (x:=Wr.h) (R0 g)
def W0.h:Hn:=.q .o1 (.q (.q .o3 (.k (.loop [(8,.I)] (.q .o1 (.q (.c .l .l) (.q (.k (.q .o2 (.q .o6 .aJ))) .o2)))))) .aM)
theorem W0.o {a:Sl}{b:Fv}{c:Hp}{d:aN}(e:Xb [bN] (λe=>e 0 c) λf (g:Int) h=>If (g<((a.len:Nat):Int)) (Ix a.a a.len g 1 λi=>bM i h λj=>V2 Tryz.prog b [.I j] [.one .b] h λk l=>If k (d g l) (bL (g+1) λm=>f m l)) (d (-1) h)):W0.c a b c d:=Wa Tryz.func295 (x:=W0.h) (R0 e)
def WJ.h:Hn:=.q .o1 (.q (.q .o3 (.k (.loop [(8,.I)] (.q .o1 (.q (.c .l .l) (.q (.k (.q .o2 (.q .o6 .aJ))) .o2)))))) .aM)
theorem WJ.o {a:Sl}{b:Int}{c:Hp}{d:aN}(e:Xb [bN] (λe=>e 0 c) λf (g:Int) h=>If (g<((a.len:Nat):Int)) (Ix a.a a.len g 1 λi=>bM i h λj=>If (b==j) (d g h) (bL (g+1) λk=>f k h)) (d (-1) h)):WJ.c a b c d:=Wa Tryz.func296 (x:=WJ.h) (R0 e)
def Wg.h:Hn:=.q .o1 (.q .o5 .l)
theorem Wg.o {a:Sl}{b:Fv}{c:Hp}{d:aO}(e:Wm.c a b c λe f=>d (decide (e≥0)) f):Wg.c a b c d:=Wa Tryz.func300 (x:=Wg.h) (R0 e)
def Wm.h:Hn:=.q .o1 (.q (.q .o3 (.k (.loop [(8,.I)] (.q .o1 (.q (.c .l .l) (.q (.k (.q .o2 (.q .o6 .aJ))) .o2)))))) .aM)
theorem Wm.o {a:Sl}{b:Fv}{c:Hp}{d:aN}(e:Xb [bN] (λe=>e 0 c) λf (g:Int) h=>If (g<((a.len:Nat):Int)) (Ix a.a a.len g 2 λi=>aZ i 0 h λj=>aZ i 1 h λk=>V2 Tryz.prog b [.agg #[.bool j,.bool k]] [.one .b] h λl m=>If l (d g m) (bL (g+1) λn=>f n m)) (d (-1) h)):Wm.c a b c d:=Wa Tryz.func314 (x:=Wm.h) (R0 e)
end Go.Proofs
namespace Go.Bu
open Go Go.Vc Go.Proofs
variable {σ:Hp}{p n sb:Nat}{S:Nat->Bool}{ms:List Nat}
theorem qo {k:Nat}{K:Int->Prop}(hk:k<=62)(hK:K ((2^k:Nat):Int)):Nn (k:Int) (Ar .i64 (1*2^(min (k:Int).toNat IntKind.i64.bits)) K):=by
 refine nn O ?_;rw[IG hk];exact cA aA (OC hk) hK
theorem E1 {a k:Nat}{K:Int->Prop}(hk:k<=62)(ha:a*2^k<=4611686018427387904)(hK:K ((a*2^k:Nat):Int)):Ar .i64 ((a:Int)*2^(min (k:Int).toNat IntKind.i64.bits)) K:=by
 rw[IG hk];exact cA aA ha hK
theorem xF {x k j:Nat}{K:Int->Prop}(hj:j=k)(hk:k<=62)(hx:x<=4611686018427387904)(hK:K ((x/2^k*2^k:Nat):Int)) :
 Ar .i64 (((x:Int).fdiv (2^(min (k:Int).toNat IntKind.i64.bits)))*2^(min (j:Int).toNat IntKind.i64.bits)) K:=by
 subst hj;rw[IG hk,ME];refine cA aA ?_ hK;exact zJ (Cn _ _) hx
theorem BH.rN (h:BH σ p n S sb ms){K:Int->Prop}(hK:K (n:Int)):fL .i64 (Addr.add ⟨p,0,none⟩ 0) σ K:=dZ h.TF hK
theorem BH.rB (h:BH σ p n S sb ms){K:Sl->Prop}(hK:∀cap,K ⟨some ⟨sb,0,none⟩,ms.length,cap⟩):kG (Addr.add ⟨p,0,none⟩ 1) σ K:=by
 obtain⟨cap,a⟩:=h.oH;rw[add_lit];exact rm a (hK cap)
theorem BH.rM (h:BH σ p n S sb ms){k m:Nat}(hm:ms[k]?=some m){K:Option Nat->Prop}(hK:K (some m)):Ix (some ⟨sb,0,none⟩) ms.length (k:Int) 1 λa=>qc a σ K:=by
 refine ix O (by have:=(cQ.1 hm).1;omega) ?_;rw[add_lit];refine Ln ?_ hK;have:=h.P0 hm;simpa using this
theorem CZ (h:BH σ p n S sb ms){R:aO}(hR:R true σ):XQ.c (aW p) σ R:=by
 refine XQ.o ?_;refine bZ.intro (cJ rfl (aG (h.rN ?_)));have:=h.n1;rw[zT O];exact hR
def Zg (n:Nat)(start aF:Int):Bool:=decide (0<=start)&&(decide (1<=aF)&&decide (aF<=n-start))
theorem Jh (h:BH σ p n S sb ms)(start aF:Int){R:aN}(h0:Zg n start aF=true->R 0 σ)(h1:Zg n start aF=false->R 1 σ):Ym.c (aW p) start aF σ R:=by
 refine Ym.o ?_;have a:¬(0<=start/\1<=aF/\aF<=n-start)->R 1 σ:=λg=>h1 (by simp only[Zg,←yj];exact zg g);have n1:=h.n1;have n2:=h.n2;refine CZ h (cG rfl (bZ.intro ?_));refine cI (λh1=>bZ.intro (cJ rfl (bZ.intro (cJ rfl (cJ rfl (a O)))))) λh1=>?_;refine bZ.intro (cI (λd=>bZ.intro (cJ rfl (cJ rfl (a O)))) λd=>?_);refine aG (h.rN ?_);refine bZ.intro (cI (λb=>cJ rfl (a O)) λb=>?_);refine aG (h.rN (ar O O ?_));refine cI (λe=>a O) λe=>h0 ?_;simp only[Zg,zG,zV];omega
theorem N3 (h:BH σ p n S sb ms)(x:Nat)(hx:x<=4611686018427387904){R:Int->Int->Bool->Hp->Prop}
 (h1:∀k q,can S k q=true->x/2^k=q->R (k:Int) ((q*2^k:Nat):Int) true σ) (h0:S x=false->R 0 0 false σ):Xy.c (aW p) (x:Int) σ R:=by
 refine Xy.o ?_;refine aG (h.rB λcap=>?_);refine ZV (a:=bN) (λt u=>∃k:Nat,t=(k:Int)/\k<=ms.length/\u=σ/\∀j,j<k->can S j (x/2^j)=false) (λt _=>ms.length-t.toNat) ⟨0,rfl,O,rfl,λj d=>O⟩ ?_;rintro t u ⟨k,rfl,w,rfl,b⟩;have y:=h.len;refine cI (λg=>?_) (λr=>?_)
 ·simp only at g;obtain⟨m,s⟩:=h.get (k:=k) O;refine h.rM s (nn O (nn O (xF rfl O hx (h.lk s rfl ?_))));cases hc:can S k (x/2^k)
  ·refine cG aA (cA (m:=k+1) O O ?_);refine⟨⟨k+1,rfl,O,rfl,λj d=>?_⟩,O⟩;by_cases e:j=k
   ·rw[e];exact hc
   ·exact b j O
  ·exact cJ aA (h1 k _ hc rfl)
 ·simp only at r;refine h0 ?_;cases hs:S x
  ·rfl
  ·obtain⟨j,d⟩:=VY h.kU hs;have:=h.fits (ZS h.kU (ZM.1 d).1);rw[b j O]at d;cases d
def p7 (S:Nat->Bool)(x:Int):Bool:=decide (0<=x)&&S x.toNat
theorem Jg (h:BH σ p n S sb ms)(x:Int){R:aO}(hR:R (p7 S x) σ):XR.c (aW p) x σ R:=by
 refine XR.o ?_;have n2:=h.n2;refine CZ h (bZ.intro (cG rfl ?_));refine bZ.intro (cI (λi=>cJ rfl ?_) λi=>aG (h.rN ?_))
 ·have:p7 S x=false:=by simp[p7];intro;omega
  rw[this]at hR;exact hR
 ·refine cI (λb=>?_) λb=>?_
  ·have:p7 S x=false:=by
    simp only[p7];cases a:S x.toNat
    ·simp
    ·have:=h.kU _ a;omega
   rw[this]at hR;exact hR
  ·obtain⟨y,rfl⟩:=zn (show 0<=x by omega);have e:p7 S (y:Int)=S y:=by simp[p7]
   rw[e]at hR;refine N3 h y O (λk q d g=>?_) λa=>?_
   ·rw[Vh d g]at hR;exact hR
   ·rw[a]at hR;exact hR
theorem WoY {k q:Nat}(h:BH σ p n S sb ms)(hf:q*2^k+2^k<=n)(hd:∀x,x/2^k=q->S x=false){R:aP}
 (hR:∀σ',Ext (· ∈ ms) σ σ'->BH σ' p n (ins S k q) sb ms->R σ'):Zi.c (aW p) (k:Int) ((q*2^k:Nat):Int) σ R:=by
 refine Zi.o ?_;refine KA (a:=bN) (bb:=bN)
  (λo s C=>∃(j r:Nat) (T:Nat->Bool),o=(j:Int)/\s=((r*2^j:Nat):Int)/\r*2^j+2^j<=n/\BH C p n T sb ms/\Ext (· ∈ ms) σ C/\(∀x,x/2^j=r->T x=false)/\ins T j r=ins S k q)
  (λo _ _=>ms.length-o.toNat) ⟨k,q,S,rfl,rfl,hf,h,Ext.refl _ _,hd,rfl⟩ ?_
 rintro o s C ⟨j,r,T,rfl,rfl,A,d,P,z,w⟩;have Y:=d.len;have U:=d.fits A;have X:=d.n2;have V:=nM j;obtain⟨m,B⟩:=d.get U;have y:¬full (ins T j r) (j+1) (r/2)=true->(bQ (some ⟨p,0,none⟩) λM=>kG (M.add 1) C λE=>Ix E.a E.len (j:Int) 1 λH=>qc H C λK=>nO .i64 .b K ((r*2^j:Nat):Int) true C λv3=>R v3):=by
  intro g;refine aG (d.rB λcap=>d.rM B ?_);refine d.Bo B z g A rfl λD e J=>hR D (P.trans e) ?_;rw[←w];exact J
 refine cA (m:=j+1) O O (aG (d.rB λcap=>bZ.intro ?_));refine cI (λG=>?_) (λL=>?_)
 ·simp only at G;refine aG (d.rB λcap=>d.rM B (qo O ?_));have N:=OC (show j<=62 by omega);have F:bits .xor .i64 ((r*2^j:Nat):Int) ((2^j:Nat):Int)=((iJ r*2^j:Nat):Int):=by
   rw[PY O O,Wml]
  rw[F];refine d.lk B rfl ?_;cases hc:can T j (iJ r)
  ·refine cG aA (y (κ z (by simp[hc])))
  ·refine cJ aA ?_;refine aG (d.rB λcap=>d.rM B (qo O ?_));rw[F];refine d.wj B hc rfl λD e J=>?_;refine cA (m:=j+1) O O (nn O (cA (m:=j+1) O O (nn O ?_)));refine xF rfl O O ?_;refine cA (m:=j+1) O O ⟨⟨j+1,r/2,del T j (iJ r),rfl,?_,?_,J,P.trans e,?_,?_⟩,O⟩
   ·rw[qg,←xL,KV]
   ·-- both halves lie within
    have u:=ZS d.kU (ZM.1 hc).1;have W:r/2*2^(j+1)=(r/2*2)*2^j:=by rw[qg,Ab (2^j) 2,←xm]
    rw[W,qg];have g:(r/2*2)+1=r\/(r/2*2)+1=iJ r:=by unfold iJ;split<;>omega
    have Q:(r/2*2)*2^j+2^j*2=((r/2*2)+1)*2^j+2^j:=by rw[zc];omega
    rw[Q];rcases g with e4|e4<;>rw[e4]<;>assumption
   ·intro x F;rcases Hz.1 F with u|u
    ·simp[del,z x u]
    ·simp[del,u]
   ·rw[←w];refine xh λx=>?_;rw[VU,VU,VT,Hz];by_cases u:x/2^j=iJ r
    ·simp[u,Vh hc u]
    ·simp[u]
 ·simp only at L;refine cG rfl (y λg=>?_);have:=ZS (NF d.kU A) g;have u:2^ms.length<=2^(j+1):=sC aB O;have:=d.hi;omega
theorem EG {a m:Nat}(h:BH σ p n S sb ms)(hf:a+m<=n)(hd:∀x,a<=x->x<a+m->S x=false){R:aP}
 (hR:∀σ',Ext (· ∈ ms) σ σ'->BH σ' p n (dK S a (a+m)) sb ms->R σ'):Yq.c (aW p) (a:Int) (m:Int) σ R:=by
 refine Yq.o ?_;have P:=h.n2;refine KA (a:=bN) (bb:=bN)
  (λs c w=>∃(a' r:Nat),s=(a':Int)/\c=(r:Int)/\a<=a'/\a'+r=a+m/\BH w p n (dK S a a') sb ms/\Ext (· ∈ ms) σ w)
  (λ_ c _=>c.toNat) ⟨a,m,rfl,rfl,O,rfl,by rw[Wlg];exact h,Ext.refl _ _⟩ ?_
 rintro s c w ⟨a',r,rfl,rfl,D,K,F,G⟩;refine cI (λE=>?_) (λU=>?_)
 ·refine ZV (a:=bN) (λk u=>∃j q:Nat,k=(j:Int)/\a'=q*2^j/\2^j<=r/\u=w) (λk _=>12-k.toNat) ⟨0,a',rfl,by simp,by simp;omega,rfl⟩ ?_;rintro k u ⟨j,q,rfl,J,M,rfl⟩;have V:j<=10:=by
   apply Classical.byContradiction;intro hc;have:2^11<=2^j:=sC aB O;omega
  refine cA (m:=j+1) O O (nn O (cA (m:=j+1) O O (nn O ?_)));refine xF rfl O O (bZ.intro ?_);have g:(Zi.c (aW p) (j:Int) (a':Int) u λv3=>
   Nn (j:Int)<|Ar .i64 (1*2^(min (j:Int).toNat IntKind.i64.bits)) λC=>Ar .i64 ((a':Int)+C) λd=>
   Nn (j:Int)<|Ar .i64 (1*2^(min (j:Int).toNat IntKind.i64.bits)) λB=>Ar .i64 ((r:Int)-B) λb=>
   (∃(a'' m'':Nat),d=(a'':Int)/\b=(m'':Int)/\a<=a''/\a''+m''=a+m/\BH v3 p n (dK S a a'') sb ms/\Ext (· ∈ ms) σ v3)/\b.toNat<(r:Int).toNat):=by
   subst J;refine WoY F O (λx N=>?_) λv3 e y=>?_
   ·have:=Qc.1 N;have L:=hd x O O;simp only[dK,L,CP];rw[zg (show ¬x<q*2^j by omega),vN]
   ·have A:=nM j;refine qo O (cA (m:=q*2^j+2^j) O O (qo O (cA (m:=r-2^j) O O ?_)));refine⟨⟨_,_,rfl,rfl,O,O,?_,G.trans e⟩,O⟩;rw[TK,WhQ D O]at y;exact y
  refine cU (λH=>?_) (λH=>cG rfl g);have z:a'/2^(j+1)*2^(j+1)=a':=by
   have:=zY.1 H
   exact_mod_cast this
  refine cA (m:=j+1) O O (qo O ?_);refine cI (λQ=>?_) λ_=>g;refine cA (m:=j+1) O O ⟨⟨j+1,a'/2^(j+1),rfl,z.symm,O,rfl⟩,O⟩
 ·have:r=0:=by omega
  subst this;have:a'=a+m:=by omega
  subst this;exact hR w G F
theorem Ji {a m:Nat}(h:BH σ p n S sb ms)(hf:a+m<=n)(hd:∀x,a<=x->x<a+m->S x=true){R:aP}
 (hR:∀σ',Ext (· ∈ ms) σ σ'->BH σ' p n (take S a (a+m)) sb ms->R σ'):Zl.c (aW p) (a:Int) (m:Int) σ R:=by
 refine Zl.o ?_;have Z:=h.n2;refine ZV (a:=bN) (λs w=>∃x:Nat,s=(x:Int)/\a<=x/\BH w p n (take S a (min x (a+m))) sb ms/\Ext (· ∈ ms) σ w)
  (λs _=>a+m-s.toNat) ⟨a,rfl,O,by rw[uF O,TJ];exact h,Ext.refl _ _⟩ ?_
 rintro s w ⟨x,rfl,C,d,K⟩;refine cA (m:=a+m) O O ?_;refine cI (λM=>?_) (λX=>?_)
 ·rw[uF O]at d;have hx:take S a x x=true:=Ku.2 ⟨hd x C O,O⟩;refine N3 d x O (λk q z Q=>?_) (λg=>by rw[hx]at g;cases g);have D:=ZS d.kU (ZM.1 z).1;have L:=d.fits D;have hl:=d.len;obtain⟨mm,J⟩:=d.get L;have N:=Qc.1 Q;refine aG (d.rB λcap=>d.rM J ?_);refine d.wj J z rfl λh1 U F=>?_;refine qo O (cA (m:=q*2^k+2^k) O O (cA (m:=x-q*2^k) O O ?_));refine EG F O (λy B G=>?_) λh2 V e=>?_
  ·have:y/2^k=q:=Qc.2 O;simp[del,this]
  ·have r:=(K.trans U).trans V;rw[show q*2^k+(x-q*2^k)=x by omega]at e;have j:∀y,q*2^k<=y/\y<q*2^k+2^k->S y=true/\¬(a<=y/\y<x):=λy b=>Ku.1 (Vh z (Qc.2 b));refine cA (m:=a+m) O O (cI (λW=>?_) λY=>?_)
   ·refine cA (m:=q*2^k+2^k-(a+m)) O O ?_;refine EG e O (λy B G=>?_) λh3 P u=>?_
    ·have:y/2^k=q:=Qc.2 O;have H:¬y<x:=by omega
     simp[dK,del,this,H]
    ·refine⟨⟨_,rfl,O,?_,r.trans P⟩,O⟩;rw[Nat.min_eq_right O];have:dK (dK (del (take S a x) k q) (q*2^k) x) (a+m) (a+m+(q*2^k+2^k-(a+m)))=take S a (a+m):=by
      refine xh λy=>?_;have b:=j y;simp only[Kw,VT,Ku,Ne,Qc];generalize q*2^k=A at *;generalize 2^k=E at *;cases g:S y
      ·rw[g]at b;simp only[zd,false_and,false_or,iff_false,imp_false]at b ⊢;omega
      ·rw[g]at b;simp only[yb]at b ⊢;omega
     rw[this]at u;exact u
   ·refine⟨⟨_,rfl,O,?_,r⟩,O⟩;rw[uF O];have:dK (del (take S a x) k q) (q*2^k) x=take S a (q*2^k+2^k):=by
     refine xh λy=>?_;have b:=j y;simp only[Kw,VT,Ku,Ne,Qc];generalize q*2^k=A at *;generalize 2^k=E at *;cases g:S y
     ·rw[g]at b;simp only[zd,false_and,false_or,iff_false,imp_false]at b ⊢;omega
     ·rw[g]at b;simp only[yb]at b ⊢;omega
    rw[this]at e;exact e
 ·rw[Nat.min_eq_right O]at d;exact hR w K d
def uo (S:Nat->Bool)(a m:Nat):Bool:=(List.range m).all λi=>!S (a+i)
def iR (S:Nat->Bool)(a m:Nat):Bool:=(List.range m).all λi=>S (a+i)
theorem Vs {S:Nat->Bool}{a m:Nat}:uo S a m=true↔∀x,a<=x->x<a+m->S x=false:=by
 simp only[uo,nD,zQ,pZ];exact⟨λh x d b=>by have:=h (x-a) O;rwa [show a+(x-a)=x by omega]at this,λh i e=>h _ O O⟩
theorem Uj {S:Nat->Bool}{a m:Nat}:iR S a m=true↔∀x,a<=x->x<a+m->S x=true:=by
 simp only[iR,nD,zQ];exact⟨λh x d b=>by have:=h (x-a) O;rwa [show a+(x-a)=x by omega]at this,λh i e=>h _ O O⟩
theorem Τ {S:Nat->Bool}{a m x:Nat}(h1:a<=x)(h2:x<a+m)(h:S x=true):uo S a m=false:=by
 cases e:uo S a m
 ·rfl
 ·rw[Vs.1 e x h1 h2]at h;cases h
theorem Pf {S:Nat->Bool}{a m x:Nat}(h1:a<=x)(h2:x<a+m)(h:S x=false):iR S a m=false:=by
 cases e:iR S a m
 ·rfl
 ·rw[Uj.1 e x h1 h2]at h;cases h
def Cy (n:Nat)(S:Nat->Bool)(a m:Int):Int:=if Zg n a m then(if uo S a.toNat m.toNat then 0 else 9)else 1
def QW (n:Nat)(S:Nat->Bool)(a m:Int):Nat->Bool:=if Zg n a m&&uo S a.toNat m.toNat then dK S a.toNat (a.toNat+m.toNat)else S
def vp (n:Nat)(S:Nat->Bool)(a m:Int):Int:=if Zg n a m then(if iR S a.toNat m.toNat then 0 else 4)else 1
def lU (n:Nat)(S:Nat->Bool)(a m:Int):Nat->Bool:=if Zg n a m&&iR S a.toNat m.toNat then take S a.toNat (a.toNat+m.toNat)else S
theorem Ll {n:Nat}{a m:Int}(h:Zg n a m=true):∃x y:Nat,a=(x:Int)/\m=(y:Int)/\1<=y/\x+y<=n:=by
 simp only[Zg,zG,zV]at h;exact⟨a.toNat,m.toNat,O,O,O,O⟩
theorem vA (h:BH σ p n S sb ms)(a m:Int){R:aN}
 (hR:∀σ',Ext (· ∈ ms) σ σ'->BH σ' p n (QW n S a m) sb ms->R (Cy n S a m) σ'):Yf.c (aW p) a m σ R:=by
 refine Yf.o ?_;have F:=h.n2;refine Jh h a m (λb=>cG rfl ?_) (λb=>cJ rfl ?_)
 ·obtain⟨x,y,rfl,rfl,H,w⟩:=Ll b;refine ZV (a:=bN) (λt s=>∃z:Nat,t=(z:Int)/\x<=z/\s=σ/\∀u,x<=u->u<z->S u=false) (λt _=>x+y-t.toNat) ⟨x,rfl,O,rfl,λu _ _=>O⟩ ?_;rintro t s ⟨z,rfl,D,rfl,g⟩;refine cA (m:=x+y) O O ?_;refine cI (λA=>Jg h _ ?_) (λE=>?_)
  ·have e:p7 S (z:Int)=S z:=by simp[p7]
   rw[e];cases hs:S z
   ·refine cG rfl (cA (m:=z+1) O O ⟨⟨z+1,rfl,O,rfl,λu r B=>?_⟩,O⟩);by_cases e:u=z
    ·rw[e];exact hs
    ·exact g u r O
   ·refine cJ rfl ?_;have j:=Τ (m:=y) D O hs;have:=hR s (Ext.refl _ _);simp only[Cy,QW,b,dE,j,vN,zW,zd,zz]at this;exact this h
  ·have d:∀u,x<=u->u<x+y->S u=false:=λu r B=>g u r O;have j:=Vs.2 d;refine EG h w d λr G C=>?_;have:=hR r G;simp only[Cy,QW,b,dE,j,xi,zW]at this;exact this C
 ·have:=hR σ (Ext.refl _ _);simp only[Cy,QW,b,xj,zd,zz]at this;exact this h
theorem qm (h:BH σ p n S sb ms)(a m:Int){R:aN}
 (hR:∀σ',Ext (· ∈ ms) σ σ'->BH σ' p n (lU n S a m) sb ms->R (vp n S a m) σ'):XA.c (aW p) a m σ R:=by
 refine XA.o ?_;have F:=h.n2;refine Jh h a m (λb=>cG rfl ?_) (λb=>cJ rfl ?_)
 ·obtain⟨x,y,rfl,rfl,H,w⟩:=Ll b;refine ZV (a:=bN) (λt s=>∃z:Nat,t=(z:Int)/\x<=z/\s=σ/\∀u,x<=u->u<z->S u=true) (λt _=>x+y-t.toNat) ⟨x,rfl,O,rfl,λu _ _=>O⟩ ?_;rintro t s ⟨z,rfl,D,rfl,g⟩;refine cA (m:=x+y) O O ?_;refine cI (λA=>Jg h _ ?_) (λE=>?_)
  ·have e:p7 S (z:Int)=S z:=by simp[p7]
   rw[e];cases hs:S z
   ·refine cJ rfl ?_;have j:=Pf (m:=y) D O hs;have:=hR s (Ext.refl _ _);simp only[vp,lU,b,dE,j,vN,zW,zd,zz]at this;exact this h
   ·refine cG rfl (cA (m:=z+1) O O ⟨⟨z+1,rfl,O,rfl,λu r B=>?_⟩,O⟩);by_cases e:u=z
    ·rw[e];exact hs
    ·exact g u r O
  ·have d:∀u,x<=u->u<x+y->S u=true:=λu r B=>g u r O;have j:=Uj.2 d;refine Ji h w d λr G C=>?_;have:=hR r G;simp only[vp,lU,b,dE,j,xi,zW]at this;exact this C
 ·have:=hR σ (Ext.refl _ _);simp only[vp,lU,b,xj,zd,zz]at this;exact this h
theorem OI {n:Nat}{S:Nat->Bool}(hb:Bounded S n)(K:Nat):nJ n S K<=n:=by
 rw[GI hb];exact zJ xS aA
theorem vG (h:BH σ p n S sb ms){R:aN}(hR:R ((jH n S:Nat):Int) σ):Zk.c (aW p) σ R:=by
 refine Zk.o ?_;have r:=h.n2;have u:=h.len;refine CZ h (cG rfl (aG (h.rB λcap=>?_)));refine KA (a:=bN) (bb:=bN) (λc t g=>∃k:Nat,c=((nJ n S k:Nat):Int)/\t=(k:Int)/\k<=ms.length/\g=σ) (λ_ t _=>ms.length-t.toNat) ⟨0,rfl,rfl,O,rfl⟩ ?_;rintro c t g ⟨k,rfl,rfl,s,rfl⟩;have j:=OI h.kU (k+1);have w:nJ n S (k+1)=nJ n S k+many n S k*2^k:=rfl;refine cI (λb=>?_) (λd=>?_)
 ·simp only at b;obtain⟨m,e⟩:=h.get (k:=k) O;refine h.rM e (h.nX e (nn O (E1 O O ?_)));refine cA (m:=nJ n S (k+1)) O O (cA (m:=k+1) O O ⟨⟨k+1,rfl,rfl,O,rfl⟩,O⟩)
 ·simp only at d;have:k=ms.length:=by omega
  subst this;rw[OH h.kU h.hi];exact hR
end Go.Bu
namespace Go.Ar
open Go.Bu
def yc (n:Nat)(h:Int):Bool:=decide (0<=h)&&decide (h<((n/16:Nat):Int))
def nU (st:List Nat)(h:Int):Int:=if yc st.length h then(if st.getD (16*h.toNat) 0=0 then 0 else 5)else 1
def kN (st:List Nat)(h:Int):List Nat:=if nU st h=0 then fX st (16*h.toNat) (16*h.toNat+16) 3 else st
def yu (st:List Nat)(h:Nat):Bool:=st.getD (16*h) 0 != 0&&gD st (16*h) (16*h+16) 1==0
def oY (st:List Nat)(h:Int):Int:=if yc st.length h then(if yu st h.toNat then 0 else 5)else 1
def lD (st:List Nat)(h:Int):List Nat:=if oY st h=0 then fX st (16*h.toNat) (16*h.toNat+16) 0 else st
def yi (st:List Nat)(a m:Nat)(fr:List Nat):Bool:=((st.drop a).take m).all fr.contains
def sr (st:List Nat)(a m:Int)(fr:List Nat):Int:=if Zg st.length a m then(if yi st a.toNat m.toNat fr then 0 else 5)else 1
def V8 (st:List Nat)(a m:Int)(v:Nat)(fr:List Nat):List Nat:=if sr st a m fr=0 then fX st a.toNat (a.toNat+m.toNat) v else st
def Vb (st:List Nat)(h:Nat):Nat:=if gD st (16*h) (16*h+16) 1=0 then 0 else if 0<gD st (16*h) (16*h+16) 3 then 1 else 2
def Kt (st:List Nat)(k:Nat):List Nat:=(List.range (st.length/16)).filter λh=>st.getD (16*h) 0 != 0&&Vb st h==k
def used (st:List Nat)(h:Nat):Nat:=gD st (16*h) (16*h+16) 1
def C3 (st:List Nat)(g h:Nat):Bool:=
 decide (Vb st g<Vb st h)||(Vb st g==Vb st h&&(decide (used st g<used st h)||(used st g==used st h&&decide (h<g))))
def qE (st:List Nat)(l:List Nat)(h:Nat):List Nat:=l.takeWhile (λg=>C3 st g h)++h::l.dropWhile (λg=>C3 st g h)
def eN (st:List Nat):List Nat:=((List.range (st.length/16)).filter λh=>0<gD st (16*h) (16*h+16) 2).foldl (qE st) []
def gB (st:List Nat)(p m:Nat):Nat:=(((st.drop p).take m).takeWhile (· == 2)).length
def Q7 (st:List Nat)(e:Nat):Nat->Nat->List (Nat×Nat)
 | 0,_=>[]
 | f+1,p=>if e<=p then[]else if gB st p (e-p)=0 then Q7 st e f (p+1)else(p,gB st p (e-p))::Q7 st e f (p+gB st p (e-p)+1)
def Vd (st:List Nat)(h:Nat):List (Nat×Nat):=Q7 st (16*h+16) 17 (16*h)
def gQ (want:Int):Nat->List (Nat×Nat)->List (Nat×Nat)
 | _,[]=>[]
 | p,r::rs=>if want<=(p:Int)then[]else r::gQ want (p+r.2) rs
def Ht (st:List Nat)(want:Int):List (Nat×Nat):=gQ want 0 ((eN st).flatMap (Vd st))
structure Sp where
 st:List Nat
 wd:Nat->Int
 pk:Nat
def Sp.set (s:Sp)(a m v:Nat):Sp:={s with st:=fX s.st a (a+m) v,wd:=λw=>if a*32<=w/\w<(a+m)*32 then 0 else s.wd w}
def BX (st:List Nat)(a m v:Nat):Bool:=((st.drop a).take m).contains v
def fI (s:Sp)(a m:Int):Int:=if Zg s.st.length a m then(if((s.st.drop a.toNat).take m.toNat).any (· != 0)then 5 else 0)else 1
def gI (s:Sp)(a m:Int):Sp:=if fI s a m=0 then s.set a.toNat m.toNat 1 else s
def fE (s:Sp)(a m:Int):Int:=if Zg s.st.length a m then(if BX s.st a.toNat m.toNat 0 then 7 else 0)else 1
def dX (s:Sp)(a m:Int)(v:Nat):Sp:=if fE s a m=0 then s.set a.toNat m.toNat v else s
def lR (s:Sp)(x:Int):Int:=if x<0\/x%8≠0 then 7 else if s.st.getD (x.toNat/256) 0=0 then 7 else 0
def r8 (s:Sp)(w:Nat)(v:Int):Sp:=
 {st:=s.st.set (w/32) 2,wd:=λu=>if u=w then v else s.wd u,pk:=if s.st.getD (w/32) 0=2 then s.pk else max s.pk ((s.st.set (w/32) 2).count 2)}
def U5 (s:Sp)(x v:Int):Sp:=if lR s x=0 then r8 s (x.toNat/8) v else s
end Go.Ar
namespace Go.Ar
structure Li where
 os:List Int
 lim:Nat
 low:Nat
 deriving DecidableEq
def gT:Li:=⟨[],1,0⟩
structure fW (l:Li):Prop where
 low:l.low<=l.os.length
 many:l.os.length<=256
 lim:l.lim<=128
 rr:1<=l.lim
def gX (m:Nat)(l:Li):List Int×Li:=(l.os.take m,{l with os:=l.os.drop m,low:=min l.low (l.os.length-m)})
def qi (c:bY)(l:Li):Li:=if l.lim<c.batch then{l with lim:=l.lim+1}else l
def Km (c:bY)(l:Li):Option Int×Li:=match l.os.getLast? with
 | none=>(none,if l.lim<c.batch then{l with lim:=l.lim+1}else{l with lim:=min (l.lim+c.batch) 128})
 | some x=>(some x,{l with os:=l.os.dropLast,low:=min l.low (l.os.length-1)})
def tW (c:bY)(l:Li):Nat:=min l.lim c.batch
def eM (xs:List Int)(l:Li):Li:=if l.os.length+xs.length>256 then l else{l with os:=l.os++xs}
def dR (c:bY)(x:Int)(l:Li):List Int×Li:=
 if l.os.length+1>256 then([],l)
 else if l.os.length+1<=l.lim then([],eM [x] l)
 else gX (min c.batch (l.os.length+1)) (qi c (eM [x] l))
def KY (c:bY)(l:Li):List Int×Li:=
 ((gX ((l.low+1)/2) l).1,{os:=(gX ((l.low+1)/2) l).2.os,lim:=if l.lim>c.batch then max (l.lim-c.batch) c.batch else l.lim,low:=(gX ((l.low+1)/2) l).2.os.length})
def ZZ (_:bY)(l:Li):List Int×Li:=gX l.os.length l
abbrev Bt:=Nat×List Int
def Ko (f:bY->Li->List Int×Li)(tb:List bY)(ls:List Li):List Bt:=(List.range tb.length).filterMap λk=>match tb[k]?,ls[k]? with
 | some c,some l=>if(f c l).1=[]then none else some (k,(f c l).1)
 | _,_=>none
def Kl (f:bY->Li->List Int×Li)(tb:List bY)(ls:List Li):List Li:=List.zipWith (λc l=>(f c l).2) tb ls
def Qm (tb:List bY)(ls:List Li):Nat:=((tb.zip ls).map λx=>x.1.size*x.2.os.length).sum
theorem fW.nil:fW gT:=⟨zD _,by decide,by decide,by decide⟩
theorem Dp {m:Nat}{l:Li}(h:fW l):fW (gX m l).2:=by
 have b:=h.low;have a:=h.many;refine⟨?_,?_,h.lim,h.rr⟩
 ·simp only[gX,zu];omega
 ·simp only[gX,zu];omega
theorem Mf {c:bY}{l:Li}(hc:c.ok)(h:fW l):fW (Km c l).2:=by
 have b:=h.low;have a:=h.many;have e:=h.lim;have d:=h.rr;unfold bY.ok at hc;unfold Km;split
 ·split
  ·exact⟨b,a,by simp only;omega,by simp only;omega⟩
  ·exact⟨b,a,by simp only;omega,by simp only;omega⟩
 ·exact⟨by simp only[En];omega,by simp only[En];omega,e,d⟩
theorem BN {xs:List Int}{l:Li}(h:fW l):fW (eM xs l):=by
 have b:=h.low;have a:=h.many;unfold eM;split
 ·exact h
 ·exact⟨by simp only[zK];omega,by simp only[zK];omega,h.lim,h.rr⟩
theorem Lt {c:bY}{l:Li}(hc:c.ok)(h:fW l):fW (qi c l):=by
 have a:=h.lim;unfold bY.ok at hc;unfold qi;split
 ·exact⟨h.low,h.many,by simp only;omega,by simp only;omega⟩
 ·exact h
theorem Px {c:bY}{x:Int}{l:Li}(hc:c.ok)(h:fW l):fW (dR c x l).2:=by
 unfold dR;split
 ·exact h
 ·split
  ·exact BN h
  ·exact Dp (Lt hc (BN h))
theorem Mm {c:bY}{l:Li}(hc:c.ok)(h:fW l):fW (KY c l).2:=by
 have a:=(Dp (m:=(l.low+1)/2) h).many;have d:=h.lim;have b:=h.rr;unfold bY.ok at hc;refine⟨zD _,a,?_,?_⟩<;>simp only[KY]<;>split<;>omega
theorem WiY {c:bY}{l:Li}(h:fW l):fW (ZZ c l).2:=Dp h
theorem R5 (c:bY)(hc:c.ok):KY c gT=([],gT):=by
 unfold bY.ok at hc;simp[KY,gT,gX];omega
theorem Tf (c:bY):ZZ c gT=([],gT):=by simp[ZZ,gT,gX]
def fT.rem (t:fT):fT:={low:=min t.low (t.bs.length-1),bs:=t.bs.dropLast}
def fT.tick (t:fT):fT:={low:=(t.bs.drop ((t.low+1)/2)).length,bs:=t.bs.drop ((t.low+1)/2)}
def fT.out (t:fT):List (List Int):=t.bs.take ((t.low+1)/2)
end Go.Ar
namespace Go.Proofs
open Go.Vc
set_option maxRecDepth 100000
def Zm.h:Hn:=.q .o1 (.q (.q (.cV (.seq [.op,.op,.op,.op,.dB false 2 [.op,.op],.op,.dB false 2 [.op,.op]])) .aK) (.q .o9 (.q (.q (.cV (.seq [.op,.op,.op,.dB false 8 (RI.ops 8)])) .aK) (.q (.o 13) .l))))
theorem Zm.o {a:R2}{b:Int}{c:Hp}{d:aN}(e:XP.c a c λe f=>bZ (λg h=>bZ (λi j=>If i (d 0 j) (Nz 8<|bL (b.tdiv 8) λk=>Nz 8<|bL (k.tdiv 8) λl=>bQ a λm=>sF (m.add 1) 16 l 1 λn=>fY n j λo=>bZ (λp q=>If p (d 0 q) (Nz 8<|bL (b.tdiv 8) λr=>Nz 8 <| bQ o λs=>sF s 8 (r.tmod 8) 1 λt=>fY t q λu=>Nz 8 <| bQ u λv=>sF v 8 (b.tmod 8) 1 λw=>bM w q λx=>d x q)) λy=>If o.isNone (y true j) (Nz 8<|bL (b.tdiv 8) λz=>Nz 8 <| bQ o λaa=>sF aa 8 (z.tmod 8) 1 λab=>fY ab j λac=>y ac.isNone j))) λad=>If g (ad true h) (ad (decide (b≥1024)) h)) λae=>If (!e) (ae true f) (ae (decide (b<0)) f)):Zm.c a b c d:=Wa Tryz.func114 (x:=Zm.h) (R0 e)
def XP.h:Hn:=.q .o1 (.q (.cV (.seq [.op,.op,.op,.dB true 4 (RI.ops 4),.op])) .l)
theorem XP.o {a:R2}{b:Hp}{c:aO}(d:bZ (λd e=>c d e) λf=>If (!a.isNone) (bG a 0 b λh=>f h b) (f false b)):XP.c a b c:=Wa Tryz.func144 (x:=XP.h) (R0 d)
def Qj.h:Hn:=.q .o1 (.q .o3 .l)
theorem Qj.o {a:Hp}{b:Option Addr->Hp->Prop}(c:aV #[.bool true,.pointer none,.pointer none,.pointer none,.pointer none,.pointer none,.pointer none,.pointer none,.pointer none,.pointer none,.pointer none,.pointer none,.pointer none,.pointer none,.pointer none,.pointer none,.pointer none] 223 a λc d=>b (some c) d):Qj.c a b:=Wa Tryz.func150 (x:=Qj.h) (R0 c)
def YY.h:Hn:=.q .o1 (.q (.k (.q .o4 (.c .aM (.q (.cV (.seq [.op,.op,.op,.dB false 2 [.op,.op],.op,.dB false 2 [.op,.op],.op,.dB false 4 (RI.ops 4),.op])) .aK)))) (.q (.q .o2 (.k (.loop [(9,.I)] (.q (.q .o5 (.c .l .l)) (.q (.k .o4) .o3))))) .aM))
theorem YY.o {a:R2}{b c d:Int}{e:Hp}{f:aN}(g:XP.c a e λg h=>If (!g) (f 5 h) (bZ (λi j=>bZ (λk l=>bZ (λm n=>If m (f 1 n) (Xb [bN] (λo=>o b n) λp (q:Int) r=>bL (b+c) λs=>If (q<s) (Zq.c a q d r λt=>bL (q+1) λu=>p u t) (f 0 r))) λv=>If k (v true l) (bL (1024-b) λw=>v (decide (c>w)) l)) λx=>If i (x true j) (x (decide (b>1024)) j)) λy=>If (b<0) (y true h) (y (decide (c<1)) h))):YY.c a b c d e f:=Wa Tryz.func152 (x:=YY.h) (R0 g)
def Zq.h:Hn:=.q .o9 (.q .o8 (.q .o7 (.kX [] (.q .o5 (.c .o7 .l)) (.q .o5 (.c .o8 .l)))))
theorem Zq.o {a:R2}{b c:Int}{d:Hp}{e:aP}(f:Nz 8<|bL (b.tdiv 8) λf=>Nz 8<|bL (f.tdiv 8) λg=>bQ a λh=>sF (h.add 1) 16 g 1 λi=>Wx.c (some i) d λj k=>Nz 8<|bL (b.tdiv 8) λl=>Nz 8 <| bQ j λm=>sF m 8 (l.tmod 8) 1 λn=>WA.c (some n) k λo p=>Nz 8 <| bQ o λq=>sF q 8 (b.tmod 8) 1 λr=>cY r (.I c) p λs=>Jn [] (λt=>bQ j λu=>aY u 0 t λv=>aY u 1 t λw=>aY u 2 t λx=>aY u 3 t λy=>aY u 4 t λz=>aY u 5 t λaa=>aY u 6 t λab=>aY u 7 t λac=>If (v.isNone&&(w.isNone&&(x.isNone&&(y.isNone&&(z.isNone&&(aa.isNone&&(ab.isNone&&(ac.isNone&&true)))))))) (Nz 8<|bL (b.tdiv 8) λad=>Nz 8<|bL (ad.tdiv 8) λae=>bQ a λaf=>sF (af.add 1) 16 ae 1 λag=>cY ag (.pointer none) t λah=>e ah) (e t)) λai=>bQ o λaj=>aQ aj 0 s λak=>aQ aj 1 s λal=>aQ aj 2 s λam=>aQ aj 3 s λan=>aQ aj 4 s λao=>aQ aj 5 s λap=>aQ aj 6 s λaq=>aQ aj 7 s λar=>If ((ak==0)&&((al==0)&&((am==0)&&((an==0)&&((ao==0)&&((ap==0)&&((aq==0)&&((ar==0)&&true)))))))) (Nz 8<|bL (b.tdiv 8) λau=>Nz 8 <| bQ j λav=>sF av 8 (au.tmod 8) 1 λaw=>cY aw (.pointer none) s λax=>ai ax) (ai s)):Zq.c a b c d e:=Wa Tryz.func204 (x:=Zq.h) (R0 f)
def XY.h:Hn:=.q .o1 (.q .o5 .l)
theorem XY.o {a:R2}{b c:Int}{d:Hp}{e:aN}(f:YY.c a b c 0 d λf g=>e f g):XY.c a b c d e:=Wa Tryz.func224 (x:=XY.h) (R0 f)
def Wx.h:Hn:=.q .o1 (.kX [] (.q .o4 (.c .o4 .l)) (.q .o4 .l))
theorem Wx.o {a:R2}{b:Hp}{c:Option Addr->Hp->Prop}(d:Jn [] (λd=>bQ a λe=>fY e d λf=>c f d) λg=>bQ a λh=>fY h b λi=>If i.isNone (aV #[.pointer none,.pointer none,.pointer none,.pointer none,.pointer none,.pointer none,.pointer none,.pointer none] 329 b λj k=>bQ a λl=>cY l (.pointer (some j)) k λm=>g m) (g b)):Wx.c a b c:=Wa Tryz.func247 (x:=Wx.h) (R0 d)
def WA.h:Hn:=.q .o1 (.kX [] (.q .o4 (.c .o4 .l)) (.q .o4 .l))
theorem WA.o {a:R2}{b:Hp}{c:Option Addr->Hp->Prop}(d:Jn [] (λd=>bQ a λe=>fY e d λf=>c f d) λg=>bQ a λh=>fY h b λi=>If i.isNone (aV #[.I 0,.I 0,.I 0,.I 0,.I 0,.I 0,.I 0,.I 0] 333 b λj k=>bQ a λl=>cY l (.pointer (some j)) k λm=>g m) (g b)):WA.c a b c:=Wa Tryz.func248 (x:=WA.h) (R0 d)
def Yk.h:Hn:=.q .o1 (.q (.q (.cV (.seq [.op,.op,.op,.dB true 6 [.op,.op,.op,.dB false 2 [.op,.op]]])) .aK) (.q .o6 .l))
theorem Yk.o {a:R2}{b c d:Int}{e:Hp}{f:aN}(g:XP.c a e λg h=>bZ (λi j=>If i (f 1 j) (YY.c a b c d j λk l=>f k l)) λm=>If g (bZ (λn o=>m n o) λp=>If (d<1) (p true h) (p (decide (d>1073741824)) h)) (m false h)):Yk.c a b c d e f:=Wa Tryz.func255 (x:=Yk.h) (R0 g)
end Go.Proofs
namespace Go.Ar
open Go Go.Vc Go.Proofs
open Go.Bu (Zg)
variable {σ:Hp}{F:Rg}{p:Nat}{M Lf:Nat->Option Nat}{ow:Nat->Nat}
def fS {α:Type}(f:Nat->α)(k:Nat)(v:α):Nat->α:=λi=>if i=k then v else f i
theorem ZO {α:Type}(f:Nat->α)(k:Nat)(v:α):fS f k v k=v:=by simp[fS]
theorem Qw {α:Type}(f:Nat->α){k i:Nat}(v:α)(h:i≠k):fS f k v i=f i:=by simp[fS,h]
theorem Kq {α:Type}(f:Nat->α)(n k:Nat)(v:α):((List.range n).map f).set k v=(List.range n).map (fS f k v):=by
 apply lX;intro i;by_cases hik:i=k
 ·subst hik;rcases pA i n with h|h
  ·rw[zO (by simpa using h)];simp[ry h,fS]
  ·rw[za (by simpa using h),za (by simpa using h)]
 ·rw[zm (Ne.symm hik)];simp only[zi];rcases pA i n with h|h
  ·simp[ry h,fS,hik]
  ·simp[za (show(List.range n).length<=i by simpa using h)]
theorem Kv {α:Type}(f:Nat->α){n k:Nat}(h:k<n):((List.range n).map f)[k]?=some (f k):=by simp[ry h]
def ptr (o:Option Nat):Value:=.pointer (o.map λq=>⟨q,0,none⟩)
structure mO (σ:Hp) (F:Rg) (p:Nat) (M Lf:Nat->Option Nat) (ow:Nat->Nat):Prop where
 hd:bX σ p (.bool true::(List.range 16).map λi=>ptr (M i))
 kW:∀i q,i<16->M i=some q->bX σ q ((List.range 8).map λj=>ptr (Lf (8*i+j)))
 pt:∀i,i<16->M i=none->∀j,j<8->Lf (8*i+j)=none
 leaf:∀k q,k<128->Lf k=some q->bX σ q ((List.range 8).map λj=>.int .i64 ((ow (8*k+j):Nat):Int))
 jP:∀k,k<128->Lf k=none->∀j,j<8->ow (8*k+j)=0
 fp:F p
 fm:∀i q,i<16->M i=some q->F q/\q≠p
 fl:∀k q,k<128->Lf k=some q->F q/\q≠p
 mm:∀i j q,i<16->j<16->M i=some q->M j=some q->i=j
 ll:∀i j q,i<128->j<128->Lf i=some q->Lf j=some q->i=j
 ml:∀i k q,i<16->k<128->M i=some q->Lf k≠some q
def kT (σ:Hp)(F:Rg)(p:Nat)(ow:Nat->Nat):Prop:=∃M Lf,mO σ F p M Lf ow
theorem mO.move {σ':Hp}{G:Rg}(h:mO σ F p M Lf ow)(hb:∀b,b<σ.size->F b->σ'[b]?=σ[b]?)(hg:∀b,b<σ.size->F b->G b):mO σ' G p M Lf ow:=by
 have j:∀{b:Nat} {cs:List Value},bX σ b cs->F b->bX σ' b cs:=by
  rintro b cs ⟨e,m⟩ r;exact⟨e,(hb b (bX.lt ⟨e,m⟩) r).trans m⟩
 exact⟨j h.hd h.fp,λi q g a=>j (h.kW i q g a) (h.fm i q g a).1,h.pt,λk q d a=>j (h.leaf k q d a) (h.fl k q d a).1,h.jP,hg p h.hd.lt h.fp,
  λi q g a=>⟨hg q (h.kW i q g a).lt (h.fm i q g a).1,(h.fm i q g a).2⟩,λk q d a=>⟨hg q (h.leaf k q d a).lt (h.fl k q d a).1,(h.fl k q d a).2⟩,h.mm,h.ll,h.ml⟩
theorem kT.loc:dS λσ F=>kT σ F p ow:=λσ i F G ⟨M,Lf,h⟩ g e=>⟨M,Lf,h.move (λb a d=>(e b a d).2) λb a d=>(e b a d).1⟩
theorem kT.congr {ow':Nat->Nat}(h:kT σ F p ow)(he:∀x,x<1024->ow x=ow' x):kT σ F p ow':=by
 obtain⟨M,Lf,h⟩:=h;refine⟨M,Lf,h.hd,h.kW,h.pt,λk q a d=>?_,λk a d j b=>?_,h.fp,h.fm,h.fl,h.mm,h.ll,h.ml⟩
 ·have:=h.leaf k q a d;have e:((List.range 8).map λj=>Value.int .i64 ((ow (8*k+j):Nat):Int))=(List.range 8).map λj=>Value.int .i64 ((ow' (8*k+j):Nat):Int):=by
   apply ze;intro j b;rw[zQ]at b;rw[he _ O]
  rw[←e];exact this
 ·rw[←he _ O];exact h.jP k a d j b
theorem FX (h:kT σ F p ow){R:aO}(hR:R true σ):XP.c (aW p) σ R:=by
 refine XP.o ?_;obtain⟨M,Lf,h⟩:=h;exact bZ.intro (cJ rfl (aG (h.hd.rB rfl hR)))
theorem vf {a:Addr}{n i sz:Nat}{K:Addr->Prop}(hi:i<n)(hK:K (a.add (i*sz))):sF a n (i:Int) sz K:=⟨O,O,by simpa using hK⟩
theorem mO.rM (h:mO σ F p M Lf ow){i:Nat}(hi:i<16){K:Option Addr->Prop}(hK:K ((M i).map λq=>⟨q,0,none⟩)):fY ⟨p,1+i,none⟩ σ K:=by
 refine h.hd.yx ?_ hK;rw[Nat.add_comm,Dx,Kv _ hi];rfl
theorem mO.rL (h:mO σ F p M Lf ow){i j q:Nat}(hi:i<16)(hq:M i=some q)(hj:j<8){K:Option Addr->Prop}(hK:K ((Lf (8*i+j)).map λq=>⟨q,0,none⟩)):fY ⟨q,j,none⟩ σ K:=
 (h.kW i q hi hq).yx (Kv _ hj) hK
theorem mO.rN (h:mO σ F p M Lf ow){k j q:Nat}(hk:k<128)(hq:Lf k=some q)(hj:j<8){K:Int->Prop}(hK:K ((ow (8*k+j):Nat):Int)):fL .i64 ⟨q,j,none⟩ σ K:=
 (h.leaf k q hk hq).Ai (Kv _ hj) hK
def uL (ow:Nat->Nat)(x:Int):Nat:=if 0<=x/\x<1024 then ow x.toNat else 0
theorem Sh (h:kT σ F p ow)(x:Int){R:aN}(hR:R ((uL ow x:Nat):Int) σ):Zm.c (aW p) x σ R:=by
 refine Zm.o ?_;have w:=h;obtain⟨M,Lf,h⟩:=h;refine FX w (bZ.intro (cG rfl (bZ.intro (cI (λs=>cJ rfl ?_) λs=>?_))))
 ·have:uL ow x=0:=by unfold uL;rw[zA O]
  rw[this]at hR;exact hR
 refine cI (λm=>?_) λi=>?_
 ·have:uL ow x=0:=by unfold uL;rw[zA O]
  rw[this]at hR;exact hR
 obtain⟨y,rfl⟩:=zn (show 0<=x by omega);have A:y<1024:=by omega
 have z:uL ow (y:Int)=ow y:=by unfold uL;rw[zB O];rfl
 rw[z]at hR;have d:((y:Int).tdiv 8)=((y/8:Nat):Int):=by rw[Yb O];simp
 have u:(((y/8:Nat):Int).tdiv 8)=((y/8/8:Nat):Int):=by rw[Yb O];simp
 have g:(((y/8:Nat):Int).tmod 8)=((y/8%8:Nat):Int):=by rw[Kj O];simp
 have j:((y:Int).tmod 8)=((y%8:Nat):Int):=by rw[Kj O];simp
 have b:8*(y/8/8)+y/8%8=y/8:=by omega
 have a:8*(y/8)+y%8=y:=by omega
 refine nz aB (cA d O (nz aB (cA u O (aG ?_))));refine vf O ?_;rw[add_lit,add_lit,zI,rE];refine h.rM O (bZ.intro ?_);cases hM:M (y/8/8)with
 | none=>
  refine cJ rfl (cJ rfl ?_);have e:=h.pt _ O hM (y/8%8) O;rw[b]at e;have:=h.jP _ O e (y%8) O;rw[a]at this;rw[this]at hR;exact hR
 | some q=>
  refine cG rfl (nz aB (cA d O (nz aB (aG ?_))));rw[g];refine vf O ?_;rw[add_lit,zI,rE];refine h.rL O hM O ?_;rw[b];cases hL:Lf (y/8)with
  | none=>
   refine cJ rfl ?_;have:=h.jP _ O hL (y%8) O;rw[a]at this;rw[this]at hR;exact hR
  | some r=>
   refine cG rfl (nz aB (cA d O (nz aB (aG ?_))));rw[g];refine vf O ?_;rw[add_lit,zI,rE];refine h.rL O hM O ?_;rw[b,hL];refine nz aB (aG ?_);rw[j];refine vf O ?_;rw[add_lit,zI,rE];refine h.rN O hL O ?_;rw[a];exact hR
theorem Wn4 {R:Option Addr->Hp->Prop}(hR:∀σ' p,bO σ σ'->σ.size<=p->kT σ' (λb=>σ.size<=b) p (λ_=>0)->R (some ⟨p,0,none⟩) σ'):Qj.c σ R:=by
 refine Qj.o ?_;refine nw (cs:=[.bool true,.pointer none,.pointer none,.pointer none,.pointer none,.pointer none,.pointer none,.pointer none,.pointer none,.pointer none,.pointer none,.pointer none,.pointer none,.pointer none,.pointer none,.pointer none,.pointer none]) λv d e a=>?_;refine hR v _ e (zD _) ⟨λ_=>none,λ_=>none,a,?_,?_,?_,?_,zD _,?_,?_,?_,?_,?_⟩<;>intros<;>simp_all
theorem WiN (h:mO σ F p M Lf ow){i:Nat}(hi:i<16){R:Option Addr->Hp->Prop}
 (hR:∀σ' M' q,Ext F σ σ'->M' i=some q->mO σ' (Grow F σ) p M' Lf ow->R (some ⟨q,0,none⟩) σ'):Wx.c (some ⟨p,1+i,none⟩) σ R:=by
 refine Wx.o ?_;refine Jn.intro (aG (h.rM hi ?_));cases hM:M i with
 | some q=>exact cG rfl (aG (h.rM hi (by rw[hM];exact hR σ M q (Ext.refl _ _) hM (h.move (λ_ _ _=>rfl) λ_ _ C=>.inl C))))
 | none=>
  refine cJ rfl (nw (cs:=[.pointer none,.pointer none,.pointer none,.pointer none,.pointer none,.pointer none,.pointer none,.pointer none]) λE D y w=>aG ?_);have G:=h.hd.lt;refine(y.bV h.hd id).s0 aE λA o2 u=>?_;have s:(Value.bool true::(List.range 16).map λi=>ptr (M i)).set (1+i) (.pointer (some ⟨σ.size,0,none⟩))=.bool true::(List.range 16).map λj=>ptr (fS M i (some σ.size) j):=by
   rw[Nat.add_comm,vZ,Kq]
   congr 1
   apply ze;intro j _;simp only[fS];split<;>rfl
  rw[s]at u;have r:∀{b:Nat} {cs:List Value},bX σ b cs->b≠p->bX A b cs:=λx z=>Ws o2 (y.bV x id) z;have B:mO A (Grow F σ) p (fS M i (some σ.size)) Lf ow:=by
   refine⟨u,λj q g a=>?_,λj g a=>?_,λk q d a=>r (h.leaf k q d a) (h.fl k q d a).2,h.jP,.inl h.fp,λj q g a=>?_,λk q d a=>⟨.inl (h.fl k q d a).1,(h.fl k q d a).2⟩,λj k q g d m e=>?_,h.ll,λj k q g d a=>?_⟩
   ·by_cases hji:j=i
    ·subst hji;rw[ZO]at a;cases a;have z:=h.pt j g hM;have:((List.range 8).map λk=>ptr (Lf (8*j+k)))=[.pointer none,.pointer none,.pointer none,.pointer none,.pointer none,.pointer none,.pointer none,.pointer none]:=by
      have:((List.range 8).map λk=>ptr (Lf (8*j+k)))=(List.range 8).map λ_=>Value.pointer none:=by
       apply ze;intro k d;rw[zQ]at d;rw[z k d];rfl
      rw[this];rfl
     rw[this];exact Ws o2 w O
    ·rw[Qw _ _ hji]at a;exact r (h.kW j q g a) (h.fm j q g a).2
   ·by_cases hji:j=i
    ·subst hji;rw[ZO]at a;cases a
    ·rw[Qw _ _ hji]at a;exact h.pt j g a
   ·by_cases hji:j=i
    ·subst hji;rw[ZO]at a;cases a;exact⟨.inr (zD _),O⟩
    ·rw[Qw _ _ hji]at a;exact⟨.inl (h.fm j q g a).1,(h.fm j q g a).2⟩
   ·by_cases hji:j=i
    ·by_cases hki:k=i
     ·omega
     ·subst hji;rw[ZO]at m;cases m;rw[Qw _ _ hki]at e;have:=(h.kW k _ d e).lt;omega
    ·rw[Qw _ _ hji]at m;by_cases hki:k=i
     ·subst hki;rw[ZO]at e;cases e;have:=(h.kW j _ g m).lt;omega
     ·rw[Qw _ _ hki]at e;exact h.mm j k q g d m e
   ·by_cases hji:j=i
    ·subst hji;rw[ZO]at a;cases a;intro hl;have:=(h.leaf k _ d hl).lt;omega
    ·rw[Qw _ _ hji]at a;exact h.ml j k q g d a
  refine aG (B.rM hi ?_);rw[ZO];exact hR A _ σ.size (y.to.trans (o2.ext.sub λb x=>x▸h.fp)) (ZO _ _ _) B
theorem ν (h:mO σ F p M Lf ow){i j q:Nat}(hi:i<16)(hj:j<8)(hq:M i=some q){R:Option Addr->Hp->Prop}
 (hR:∀σ' L' r,Ext F σ σ'->L' (8*i+j)=some r->mO σ' (Grow F σ) p M L' ow->R (some ⟨r,0,none⟩) σ'):WA.c (some ⟨q,j,none⟩) σ R:=by
 refine WA.o ?_;have U:8*i+j<128:=by omega
 refine Jn.intro (aG (h.rL hi hq hj ?_));cases hL:Lf (8*i+j)with
 | some r=>exact cG rfl (aG (h.rL hi hq hj (by rw[hL];exact hR σ Lf r (Ext.refl _ _) hL (h.move (λ_ _ _=>rfl) λ_ _ G=>.inl G))))
 | none=>
  refine cJ rfl (nw (cs:=[.int .i64 0,.int .i64 0,.int .i64 0,.int .i64 0,.int .i64 0,.int .i64 0,.int .i64 0,.int .i64 0]) λX W K H=>aG ?_);have S:=h.kW i q hi hq;have V:=S.lt;have G:=h.fm i q hi hq;refine(K.bV S id).s0 aE λP o2 z=>?_;have y:∀{b:Nat} {cs:List Value},bX σ b cs->b≠q->bX P b cs:=λL N=>Ws o2 (K.bV L id) N;have Q:mO P (Grow F σ) p M (fS Lf (8*i+j) (some σ.size)) ow:=by
   refine⟨y h.hd (Ne.symm G.2),λm x g d=>?_,λm g d C J=>?_,λk r a s=>?_,λk a s=>?_,.inl h.fp,λm x g d=>⟨.inl (h.fm m x g d).1,(h.fm m x g d).2⟩,λk r a s=>?_,h.mm,λk E r B A w u=>?_,λm k x g a d=>?_⟩
   ·by_cases hii:m=i
    ·subst hii;rw[hq]at d;cases d;rw[Kq]at z;have:((List.range 8).map (fS (λj=>ptr (Lf (8*m+j))) j (.pointer (some ⟨σ.size,0,none⟩))))=(List.range 8).map λk=>ptr (fS Lf (8*m+j) (some σ.size) (8*m+k)):=by
      apply ze;intro k _;simp only[fS];by_cases hkj:k=j
      ·subst hkj;simp[ptr]
      ·have:¬8*m+k=8*m+j:=by omega
       simp[hkj,this]
     rw[this]at z;exact z
    ·have D:x≠q:=λe=>by subst e;exact hii (h.mm m i x g hi d hq)
     have:=y (h.kW m x g d) D;have e:((List.range 8).map λk=>ptr (fS Lf (8*i+j) (some σ.size) (8*m+k)))=(List.range 8).map λk=>ptr (Lf (8*m+k)):=by
      apply ze;intro k a;rw[zQ]at a;rw[Qw _ _ O]
     rw[e];exact this
   ·have D:m≠i:=λe=>by subst e;rw[hq]at d;cases d
    rw[Qw _ _ O];exact h.pt m g d C J
   ·by_cases hkk:k=8*i+j
    ·subst hkk;rw[ZO]at s;cases s;have N:=h.jP _ U hL;have:((List.range 8).map λC=>Value.int .i64 ((ow (8*(8*i+j)+C):Nat):Int))=[.int .i64 0,.int .i64 0,.int .i64 0,.int .i64 0,.int .i64 0,.int .i64 0,.int .i64 0,.int .i64 0]:=by
      have:((List.range 8).map λC=>Value.int .i64 ((ow (8*(8*i+j)+C):Nat):Int))=(List.range 8).map λ_=>Value.int .i64 0:=by
       apply ze;intro k a;rw[zQ]at a;rw[N k a];rfl
      rw[this];rfl
     rw[this];exact Ws o2 H O
    ·rw[Qw _ _ hkk]at s;exact y (h.leaf k r a s) λe=>by subst e;exact h.ml i k r hi a hq s
   ·by_cases hkk:k=8*i+j
    ·subst hkk;rw[ZO]at s;cases s
    ·rw[Qw _ _ hkk]at s;exact h.jP k a s
   ·by_cases hkk:k=8*i+j
    ·subst hkk;rw[ZO]at s;cases s;have:=h.hd.lt;exact⟨.inr (zD _),O⟩
    ·rw[Qw _ _ hkk]at s;exact⟨.inl (h.fl k r a s).1,(h.fl k r a s).2⟩
   ·by_cases e1':k=8*i+j
    ·by_cases e2':E=8*i+j
     ·omega
     ·subst e1';rw[ZO]at w;cases w;rw[Qw _ _ e2']at u;have:=(h.leaf E _ A u).lt;omega
    ·rw[Qw _ _ e1']at w;by_cases e2':E=8*i+j
     ·subst e2';rw[ZO]at u;cases u;have:=(h.leaf k _ B w).lt;omega
     ·rw[Qw _ _ e2']at u;exact h.ll k E r B A w u
   ·by_cases hkk:k=8*i+j
    ·subst hkk;rw[ZO];intro e;cases e;have:=(h.kW m _ g d).lt;omega
    ·rw[Qw _ _ hkk];exact h.ml m k x g a d
  refine aG (Q.rL hi hq hj ?_);rw[ZO];exact hR P _ σ.size (K.to.trans (o2.ext.sub λb L=>L▸G.1)) (ZO _ _ _) Q
theorem η (h:mO σ F p M Lf ow){k r j no:Nat}(hk:k<128)(hr:Lf k=some r)(hj:j<8){σ':Hp}(ho:QJ σ σ' r)(hb:bX σ' r (((List.range 8).map λj=>Value.int .i64 ((ow (8*k+j):Nat):Int)).set j (.int .i64 (no:Int)))) :
 mO σ' F p M Lf (fS ow (8*k+j) no):=by
 refine⟨Ws ho h.hd (Ne.symm (h.fl k r hk hr).2),λi q y x=>Ws ho (h.kW i q y x) λe=>by subst e;exact h.ml i k q y hk x hr,h.pt,λd u g b=>?_,λd g b w s=>?_,h.fp,h.fm,h.fl,h.mm,h.ll,h.ml⟩
 ·by_cases hkk:d=k
  ·subst hkk;rw[hr]at b;cases b;rw[Kq]at hb;have:((List.range 8).map (fS (λj=>Value.int .i64 ((ow (8*d+j):Nat):Int)) j (.int .i64 (no:Int))))=(List.range 8).map λw=>Value.int .i64 ((fS ow (8*d+j) no (8*d+w):Nat):Int):=by
    apply ze;intro a _;simp only[fS];by_cases haj:a=j
    ·subst haj;simp
    ·have:¬8*d+a=8*d+j:=by omega
     simp[haj,this]
   rw[this]at hb;exact hb
  ·have m:u≠r:=λe=>by subst e;exact hkk (h.ll d k u g hk b hr)
   have:=Ws ho (h.leaf d u g b) m;have e:((List.range 8).map λa=>Value.int .i64 ((fS ow (8*k+j) no (8*d+a):Nat):Int))=(List.range 8).map λa=>Value.int .i64 ((ow (8*d+a):Nat):Int):=by
    apply ze;intro a ha;rw[zQ]at ha;rw[Qw _ _ O]
   rw[e];exact this
 ·have m:d≠k:=λe=>by subst e;rw[hr]at b;cases b
  rw[Qw _ _ O];exact h.jP d g b w s
theorem WjP (h:mO σ F p M Lf ow){i j q:Nat}(hi:i<16)(hj:j<8)(hq:M i=some q)(hz:∀a,a<8->ow (8*(8*i+j)+a)=0){σ':Hp}(ho:QJ σ σ' q)(hb:bX σ' q (((List.range 8).map λj=>ptr (Lf (8*i+j))).set j (.pointer none))) :
 mO σ' F p M (fS Lf (8*i+j) none) ow:=by
 have E:=h.fm i q hi hq;refine⟨Ws ho h.hd (Ne.symm E.2),λd y g b=>?_,λd g b G A=>?_,λk r x m=>?_,λk x m=>?_,h.fp,h.fm,λk r x m=>?_,h.mm,λk D r B z s u=>?_,λd k y g w b=>?_⟩
 ·by_cases hii:d=i
  ·subst hii;rw[hq]at b;cases b;rw[Kq]at hb;have:((List.range 8).map (fS (λj=>ptr (Lf (8*d+j))) j (.pointer none)))=(List.range 8).map λk=>ptr (fS Lf (8*d+j) none (8*d+k)):=by
    apply ze;intro k _;simp only[fS];by_cases hkj:k=j
    ·subst hkj;simp[ptr]
    ·have:¬8*d+k=8*d+j:=by omega
     simp[hkj,this]
   rw[this]at hb;exact hb
  ·have C:y≠q:=λe=>by subst e;exact hii (h.mm d i y g hi b hq)
   have:=Ws ho (h.kW d y g b) C;have e:((List.range 8).map λk=>ptr (fS Lf (8*i+j) none (8*d+k)))=(List.range 8).map λk=>ptr (Lf (8*d+k)):=by
    apply ze;intro k w;rw[zQ]at w;rw[Qw _ _ O]
   rw[e];exact this
 ·simp only[fS];split
  ·rfl
  ·exact h.pt d g b G A
 ·by_cases hkk:k=8*i+j
  ·subst hkk;rw[ZO]at m;cases m
  ·rw[Qw _ _ hkk]at m;exact Ws ho (h.leaf k r x m) λe=>by subst e;exact h.ml i k r hi x hq m
 ·by_cases hkk:k=8*i+j
  ·subst hkk;exact hz
  ·rw[Qw _ _ hkk]at m;exact h.jP k x m
 ·by_cases hkk:k=8*i+j
  ·subst hkk;rw[ZO]at m;cases m
  ·rw[Qw _ _ hkk]at m;exact h.fl k r x m
 ·by_cases e1':k=8*i+j
  ·subst e1';rw[ZO]at s;cases s
  ·rw[Qw _ _ e1']at s;by_cases e2':D=8*i+j
   ·subst e2';rw[ZO]at u;cases u
   ·rw[Qw _ _ e2']at u;exact h.ll k D r B z s u
 ·by_cases hkk:k=8*i+j
  ·subst hkk;rw[ZO];intro e;cases e
  ·rw[Qw _ _ hkk];exact h.ml d k y g w b
theorem Tu (h:mO σ F p M Lf ow){i:Nat}(hi:i<16)(hz:∀j,j<8->Lf (8*i+j)=none){σ':Hp}(ho:QJ σ σ' p)(hb:bX σ' p ((Value.bool true::(List.range 16).map λi=>ptr (M i)).set (1+i) (.pointer none))) :
 mO σ' F p (fS M i none) Lf ow:=by
 have m:(Value.bool true::(List.range 16).map λi=>ptr (M i)).set (1+i) (.pointer none)=.bool true::(List.range 16).map λj=>ptr (fS M i none j):=by
  rw[Nat.add_comm,vZ,Kq]
  congr 1
  apply ze;intro j _;simp only[fS];split<;>rfl
 rw[m]at hb;have g:∀{j q},fS M i none j=some q->M j=some q:=λ{j q} d=>by
  by_cases hji:j=i
  ·subst hji;rw[ZO]at d;cases d
  ·rwa [Qw _ _ hji]at d
 refine⟨hb,λj q e d=>Ws ho (h.kW j q e (g d)) (h.fm j q e (g d)).2,λj e d=>?_,λk q r d=>Ws ho (h.leaf k q r d) (h.fl k q r d).2,h.jP,h.fp,λj q e d=>h.fm j q e (g d),h.fl,λa b q s hb w u=>h.mm a b q s hb (g w) (g u),h.ll,λa k q s r d=>h.ml a k q s r (g d)⟩;by_cases hji:j=i
 ·subst hji;exact hz
 ·rw[Qw _ _ hji]at d;exact h.pt j e d
theorem O0 (h:kT σ F p ow){x no:Nat}(hx:x<1024){R:aP}(hR:∀σ',Ext F σ σ'->kT σ' (Grow F σ) p (fS ow x no)->R σ'):Zq.c (aW p) (x:Int) (no:Int) σ R:=by
 refine Zq.o ?_;obtain⟨M,Lf,h⟩:=h;have N:((x:Int).tdiv 8)=((x/8:Nat):Int):=by rw[Yb O];simp
 have t2:(((x/8:Nat):Int).tdiv 8)=((x/8/8:Nat):Int):=by rw[Yb O];simp
 have t3:(((x/8:Nat):Int).tmod 8)=((x/8%8:Nat):Int):=by rw[Kj O];simp
 have t4:((x:Int).tmod 8)=((x%8:Nat):Int):=by rw[Kj O];simp
 have hk:8*(x/8/8)+x/8%8=x/8:=by omega
 have hk2:8*(x/8)+x%8=x:=by omega
 refine nz aB (cA N O (nz aB (cA t2 O (aG ?_))));refine vf O ?_;rw[add_lit,add_lit,zI,rE];refine WiN h O λS M1 q e1 A h1=>?_;refine nz aB (cA N O (nz aB (aG ?_)));rw[t3];refine vf O ?_;rw[add_lit,zI,rE];refine ν h1 O O A λv2 L2 r e2 C h2=>?_;rw[hk]at C;have e02:Ext F σ v2:=e1.iV e2;refine nz aB (aG ?_);rw[t4];refine vf O ?_;rw[add_lit,zI,rE];have s:x/8<128:=by omega
 refine(h2.leaf _ r s C).s0 aE λv3 o3 b3=>?_;have z:=η h2 s C O o3 b3;rw[hk2]at z;have a:∀b,Grow (Grow F σ) S b->Grow F σ b:=λb u=>by
  rcases u with h|h
  ·exact h
  ·exact .inr (zJ e1.1 h)
 have L:Ext F σ v3:=e02.fH o3.ext λb u=>by subst u;exact a _ (h2.fl _ _ s C).1
 have tail:∀v L4,Ext F σ v->mO v (Grow (Grow F σ) S) p M1 L4 (fS ow x no) →
  (bQ (some ⟨q,0,none⟩) λe=>fY (e.add 0) v λX=>fY (e.add 1) v λE=>fY (e.add 2) v λG=>fY (e.add 3) v λK=>fY (e.add 4) v λD=>fY (e.add 5) v λJ=>fY (e.add 6) v λH=>fY (e.add 7) v λB=>
   If (X.isNone&&(E.isNone&&(G.isNone&&(K.isNone&&(D.isNone&&(J.isNone&&(H.isNone&&(B.isNone&&true)))))))) (Nz 8<|Ar .i64 ((x:Int).tdiv 8) λW=>Nz 8<|Ar .i64 (W.tdiv 8) λt48=>bQ (some ⟨p,0,none⟩) λa49=>sF (a49.add 1) 16 t48 1 λa51=>cY a51 (.pointer none) v λU=>R U) (R v)):=by
  intro v L4 ev h4;have m:=h4.kW _ q O A;have g:∀j,j<8->((List.range 8).map λj=>ptr (L4 (8*(x/8/8)+j)))[0+j]?=some (.pointer ((L4 (8*(x/8/8)+j)).map λq=>⟨q,0,none⟩)):=λj y=>by rw[zI,Kv _ y];rfl
  refine aG (m.rP (g 0 O) (m.rP (g 1 O) (m.rP (g 2 O) (m.rP (g 3 O) (m.rP (g 4 O) (m.rP (g 5 O) (m.rP (g 6 O) (m.rP (g 7 O) ?_))))))));have fin:∀w,Ext F σ w->kT w (Grow (Grow F σ) S) p (fS ow x no)->R w:=λw ew hw=>hR w ew (kT.loc.mono hw λb _ u=>a b u);refine cU (λd=>?_) λ_=>fin v ev ⟨_,_,h4⟩;have P:∀j,j<8->L4 (8*(x/8/8)+j)=none:=by
   simp only[Option.isNone_map,xi,zG,Option.isNone_iff_eq_none]at d;intro j y;obtain⟨a0,a1,a2,V,Q,a5,Y,Z⟩:=d
   match j,y with
   | 0,_=>exact a0
   | 1,_=>exact a1
   | 2,_=>exact a2
   | 3,_=>exact V
   | 4,_=>exact Q
   | 5,_=>exact a5
   | 6,_=>exact Y
   | 7,_=>exact Z
  refine nz aB (cA N O (nz aB (cA t2 O (aG ?_))));refine vf O ?_;rw[add_lit,add_lit,zI,rE];refine h4.hd.s0 aE λU o4 b4=>fin U (ev.fH o4.ext λb u=>by subst u;exact a _ h4.fp) ⟨_,_,Tu h4 O P o4 b4⟩
 refine Jn.intro (aG ?_);have i:=z.leaf _ r s C;have g:∀j,j<8->((List.range 8).map λj=>Value.int .i64 ((fS ow x no (8*(x/8)+j):Nat):Int))[0+j]?=some (.int .i64 ((fS ow x no (8*(x/8)+j):Nat):Int)):=λj y=>by rw[zI,Kv _ y]
 refine i.rI (g 0 O) (i.rI (g 1 O) (i.rI (g 2 O) (i.rI (g 3 O) (i.rI (g 4 O) (i.rI (g 5 O) (i.rI (g 6 O) (i.rI (g 7 O) ?_)))))));refine cU (λd=>?_) λ_=>tail v3 L2 L z;have P:∀j,j<8->fS ow x no (8*(8*(x/8/8)+x/8%8)+j)=0:=by
  rw[hk];simp only[y5,xi,zG,zY]at d;intro j y;obtain⟨a0,a1,a2,V,Q,a5,Y,Z⟩:=d
  match j,y with
  | 0,_=>exact a0
  | 1,_=>exact a1
  | 2,_=>exact a2
  | 3,_=>exact V
  | 4,_=>exact Q
  | 5,_=>exact a5
  | 6,_=>exact Y
  | 7,_=>exact Z
 refine nz aB (cA N O (nz aB (aG ?_)));rw[t3];refine vf O ?_;rw[add_lit,zI,rE];have m:=z.kW _ q O A;refine m.s0 aE λv5 o5 b5=>?_;exact tail v5 _ (L.fH o5.ext λb u=>by subst u;exact a _ (z.fm _ _ O A).1) (WjP z O O A P o5 b5)
def lV (ow:Nat->Nat)(a m no:Nat):Nat->Nat:=if Zg 1024 a m then λp=>if a<=p/\p<a+m then no else ow p else ow
def yV (a m:Int):Int:=if Zg 1024 a m then 0 else 1
theorem Lm (h:kT σ F p ow)(a m:Int)(ha : -1000000000000<=a)(ha2:a<=1000000000000)(no:Nat){R:aN}(h1:Zg 1024 a m=false->R 1 σ)
 (hR:∀x y:Nat,a=x->m=y->1<=y->x+y<=1024->∀σ',Ext F σ σ'->kT σ' (Grow F σ) p (lV ow x y no)->R 0 σ'):YY.c (aW p) a m (no:Int) σ R:=by
 refine YY.o ?_;have d:¬(0<=a/\1<=m/\m<=1024-a)->R 1 σ:=λG=>h1 (by simp only[Zg,←yj];exact zg G);refine FX h (cG rfl (bZ.intro (cI (λu=>bZ.intro (cJ rfl (bZ.intro (cJ rfl (cJ rfl (d O)))))) λu=>?_)));refine bZ.intro (cI (λE=>bZ.intro (cJ rfl (cJ rfl (d O)))) λE=>?_);refine bZ.intro (cI (λA=>cJ rfl (d O)) λA=>ar O O (cI (λC=>d O) λC=>?_));obtain⟨x,rfl⟩:=zn (show 0<=a by omega);obtain⟨y,rfl⟩:=zn (show 0<=m by omega);have g:Zg 1024 (x:Int) (y:Int)=true:=by simp only[Zg,zG,zV];omega
 refine ZV (a:=bN) (λ(t:Int) v=>∃i:Nat,t=((x+i:Nat):Int)/\i<=y/\Ext F σ v/\kT v (Grow F σ) p (λz=>if x<=z/\z<x+i then no else ow z)) (λt _=>x+y-t.toNat) ⟨0,rfl,O,Ext.refl _ _,?_⟩ ?_
 ·have:(λz=>if x<=z/\z<x+0 then no else ow z)=ow:=by
   funext z;rw[zA O]
  rw[this];exact kT.loc.mono h λb _ j=>.inl j
 rintro t v ⟨i,rfl,J,e,r⟩;refine cA (m:=x+y) O O (cI (λs=>?_) λB=>?_)
 ·refine O0 r O λK D w=>cA (m:=x+(i+1)) O O ⟨⟨i+1,rfl,O,e.iV D,?_⟩,O⟩;refine kT.congr (kT.loc.mono w λb _ j=>?_) λz H=>?_
  ·rcases j with h|h
   ·exact h
   ·exact .inr (zJ e.1 h)
  ·simp only[fS];by_cases hzi:z=x+i
   ·subst hzi;rw[zB rfl,zB O]
   ·rw[zA hzi];by_cases hin:x<=z/\z<x+i
    ·rw[zB hin,zB O]
    ·rw[zA hin,zA O]
 ·have:i=y:=by omega
  subst this;refine hR x i rfl rfl O O v e ?_;unfold lV;rw[g];exact r
theorem Tl (h:kT σ F p ow)(a m:Nat)(ha:a<=1000000){no:Nat}(hno:1<=no)(hno2:no<=1000){R:aN}(hR:∀σ',Ext F σ σ'->kT σ' (Grow F σ) p (lV ow a m no)->R (yV a m) σ'):Yk.c (aW p) a m (no:Int) σ R:=by
 refine Yk.o ?_;refine FX h (bZ.intro (cJ rfl (bZ.intro (fJ O (fJ O ?_)))));refine Lm h a m O O no (λj=>?_) λx y A u z w σ' e r=>?_
 ·have:=hR σ (Ext.refl _ _) (by unfold lV;rw[j];exact kT.loc.mono h λb _ s=>.inl s);unfold yV at this;rw[j]at this;exact this
 ·have g:a=x:=by omega
  have d:m=y:=by omega
  subst g;subst d;have i:Zg 1024 (a:Int) (m:Int)=true:=by simp only[Zg,zG,zV];omega
  have:=hR σ' e r;unfold yV at this;rw[i]at this;exact this
theorem Ti (h:kT σ F p ow)(a m:Nat)(ha:a<=1000000){R:aN}(hR:∀σ',Ext F σ σ'->kT σ' (Grow F σ) p (lV ow a m 0)->R (yV a m) σ'):XY.c (aW p) a m σ R:=by
 refine XY.o ?_;refine Lm h a m O O 0 (λj=>?_) λx y A u z w σ' e r=>?_
 ·have:=hR σ (Ext.refl _ _) (by unfold lV;rw[j];exact kT.loc.mono h λb _ s=>.inl s);unfold yV at this;rw[j]at this;exact this
 ·have g:a=x:=by omega
  have d:m=y:=by omega
  subst g;subst d;have i:Zg 1024 (a:Int) (m:Int)=true:=by simp only[Zg,zG,zV];omega
  have:=hR σ' e r;unfold yV at this;rw[i]at this;exact this
end Go.Ar
namespace Go.Proofs
open Go.Shelf
def Tryz.jI:Go.Shelf.Ren:=⟨fun|7=>279|10=>299|n=>n,fun|23=>219|26=>3|3=>4|28=>117|0=>0|27=>116|33=>152|4=>4|n=>n,fun|n=>n⟩
theorem Tryz.qO:Go.Proofs.SlLaysZI.n7 Tryz.prog Tryz.jI:={
 mixed:=by kernel_rfl
 f7:=⟨Tryz.f279.name,by decide,Tryz.func279.trans (congrArg some (by kernel_rfl))⟩
 f10:=⟨Tryz.f299.name,by decide,Tryz.func299.trans (congrArg some (by kernel_rfl))⟩
 t0:=Tryz.underlying0
 a0:=Tryz.isAgg0
 z0:=Tryz.sizeOf0
 v0:=Tryz.zeroValue0
 t4:=Tryz.underlying4
 a4:=Tryz.isAgg4
 z4:=Tryz.sizeOf4
 v4:=Tryz.zeroValue4
 t23:=Tryz.underlying219
 a23:=Tryz.isAgg219
 z23:=Tryz.sizeOf219
 v23:=Tryz.zeroValue219
 t26:=Tryz.underlying3
 a26:=Tryz.isAgg3
 z26:=Tryz.sizeOf3
 v26:=Tryz.zeroValue3
 t27:=Tryz.underlying116
 a27:=Tryz.isAgg116
 z27:=Tryz.sizeOf116
 v27:=Tryz.zeroValue116
 t28:=Tryz.underlying117
 a28:=Tryz.isAgg117
 z28:=Tryz.sizeOf117
 v28:=Tryz.zeroValue117
 t33:=Tryz.underlying152
 a33:=Tryz.isAgg152
 z33:=Tryz.sizeOf152
 v33:=Tryz.zeroValue152}
def Tryz.lO:Go.Shelf.Ren:=⟨fun|6=>66|8=>93|9=>94|11=>127|13=>129|12=>128|23=>167|24=>168|14=>158|15=>159|16=>160|17=>161|18=>162|19=>163|20=>164|21=>165|22=>166|25=>205|26=>206|27=>207|28=>208|29=>209|30=>210|31=>249|n=>n,fun|26=>3|28=>117|24=>69|0=>0|3=>3|37=>199|48=>255|50=>257|4=>4|40=>248|39=>247|45=>252|5=>5|9=>9|51=>299|55=>105|57=>335|58=>336|33=>152|n=>n,fun|n=>n⟩
theorem Tryz.vz:Go.Proofs.SlLaysZI.n6 Tryz.prog Tryz.lO:={
 mixed:=by kernel_rfl
 f6:=⟨Tryz.f66.name,by decide,Tryz.func66.trans (congrArg some (by kernel_rfl))⟩
 f8:=⟨Tryz.f93.name,by decide,Tryz.func93.trans (congrArg some (by kernel_rfl))⟩
 f11:=⟨Tryz.f127.name,by decide,Tryz.func127.trans (congrArg some (by kernel_rfl))⟩
 t0:=Tryz.underlying0
 a0:=Tryz.isAgg0
 z0:=Tryz.sizeOf0
 v0:=Tryz.zeroValue0
 t24:=Tryz.underlying69
 a24:=Tryz.isAgg69
 z24:=Tryz.sizeOf69
 v24:=Tryz.zeroValue69
 t26:=Tryz.underlying3
 a26:=Tryz.isAgg3
 z26:=Tryz.sizeOf3
 v26:=Tryz.zeroValue3
 t28:=Tryz.underlying117
 a28:=Tryz.isAgg117
 z28:=Tryz.sizeOf117
 v28:=Tryz.zeroValue117
 i26:=by kernel_rfl}
def Tryz.rR:Go.Shelf.Ren:=⟨fun|8=>93|11=>127|n=>n,fun|26=>3|28=>117|24=>69|0=>0|33=>152|4=>4|n=>n,fun|n=>n⟩
theorem Tryz.Bd:Go.Proofs.SlLaysZI.n8 Tryz.prog Tryz.rR:={
 mixed:=by kernel_rfl
 f8:=⟨Tryz.f93.name,by decide,Tryz.func93.trans (congrArg some (by kernel_rfl))⟩
 f11:=⟨Tryz.f127.name,by decide,Tryz.func127.trans (congrArg some (by kernel_rfl))⟩
 t0:=Tryz.underlying0
 a0:=Tryz.isAgg0
 z0:=Tryz.sizeOf0
 v0:=Tryz.zeroValue0
 t24:=Tryz.underlying69
 a24:=Tryz.isAgg69
 z24:=Tryz.sizeOf69
 v24:=Tryz.zeroValue69
 t26:=Tryz.underlying3
 a26:=Tryz.isAgg3
 z26:=Tryz.sizeOf3
 v26:=Tryz.zeroValue3
 t28:=Tryz.underlying117
 a28:=Tryz.isAgg117
 z28:=Tryz.sizeOf117
 v28:=Tryz.zeroValue117
 i26:=by kernel_rfl}
def Tryz.sg:Go.Shelf.Ren:=⟨fun|5=>94|8=>129|7=>128|19=>167|20=>168|10=>158|11=>159|12=>160|13=>161|14=>162|15=>163|16=>164|17=>165|18=>166|30=>205|31=>206|32=>207|33=>208|34=>209|35=>210|40=>249|n=>n,fun|23=>69|25=>3|3=>3|32=>199|22=>69|0=>0|44=>255|46=>257|4=>4|36=>248|35=>247|41=>252|5=>5|9=>9|53=>299|57=>105|63=>335|64=>336|n=>n,fun|n=>n⟩
theorem Tryz.tY:Go.Proofs.SlLaysM.n5 Tryz.prog Tryz.sg:={
 mixed:=by kernel_rfl
 f5:=⟨Tryz.f94.name,by decide,Tryz.func94.trans (congrArg some (by kernel_rfl))⟩
 f7:=⟨Tryz.f128.name,by decide,Tryz.func128.trans (congrArg some (by kernel_rfl))⟩
 f8:=Tryz.func129.trans (congrArg some (by kernel_rfl))
 f10:=⟨Tryz.f158.name,by decide,Tryz.func158.trans (congrArg some (by kernel_rfl))⟩
 f11:=⟨Tryz.f159.name,by decide,Tryz.func159.trans (congrArg some (by kernel_rfl))⟩
 f12:=⟨Tryz.f160.name,by decide,Tryz.func160.trans (congrArg some (by kernel_rfl))⟩
 f13:=⟨Tryz.f161.name,by decide,Tryz.func161.trans (congrArg some (by kernel_rfl))⟩
 f14:=⟨Tryz.f162.name,by decide,Tryz.func162.trans (congrArg some (by kernel_rfl))⟩
 f15:=⟨Tryz.f163.name,by decide,Tryz.func163.trans (congrArg some (by kernel_rfl))⟩
 f16:=⟨Tryz.f164.name,by decide,Tryz.func164.trans (congrArg some (by kernel_rfl))⟩
 f17:=⟨Tryz.f165.name,by decide,Tryz.func165.trans (congrArg some (by kernel_rfl))⟩
 f18:=⟨Tryz.f166.name,by decide,Tryz.func166.trans (congrArg some (by kernel_rfl))⟩
 f19:=Tryz.func167.trans (congrArg some (by kernel_rfl))
 f20:=Tryz.func168.trans (congrArg some (by kernel_rfl))
 f30:=⟨Tryz.f205.name,by decide,Tryz.func205.trans (congrArg some (by kernel_rfl))⟩
 f31:=Tryz.func206.trans (congrArg some (by kernel_rfl))
 f32:=Tryz.func207.trans (congrArg some (by kernel_rfl))
 f33:=⟨Tryz.f208.name,by decide,Tryz.func208.trans (congrArg some (by kernel_rfl))⟩
 f34:=⟨Tryz.f209.name,by decide,Tryz.func209.trans (congrArg some (by kernel_rfl))⟩
 f35:=⟨Tryz.f210.name,by decide,Tryz.func210.trans (congrArg some (by kernel_rfl))⟩
 f40:=⟨Tryz.f249.name,by decide,Tryz.func249.trans (congrArg some (by kernel_rfl))⟩
 t0:=Tryz.underlying0
 a0:=Tryz.isAgg0
 z0:=Tryz.sizeOf0
 v0:=Tryz.zeroValue0
 t3:=Tryz.underlying3
 a3:=Tryz.isAgg3
 z3:=Tryz.sizeOf3
 v3:=Tryz.zeroValue3
 t4:=Tryz.underlying4
 a4:=Tryz.isAgg4
 z4:=Tryz.sizeOf4
 v4:=Tryz.zeroValue4
 t5:=Tryz.underlying5
 a5:=Tryz.isAgg5
 z5:=Tryz.sizeOf5
 v5:=Tryz.zeroValue5
 t9:=Tryz.underlying9
 a9:=Tryz.isAgg9
 z9:=Tryz.sizeOf9
 v9:=Tryz.zeroValue9
 t22:=Tryz.underlying69
 a22:=Tryz.isAgg69
 z22:=Tryz.sizeOf69
 v22:=Tryz.zeroValue69
 t23:=Tryz.underlying69
 a23:=Tryz.isAgg69
 z23:=Tryz.sizeOf69
 v23:=Tryz.zeroValue69
 t25:=Tryz.underlying3
 a25:=Tryz.isAgg3
 z25:=Tryz.sizeOf3
 v25:=Tryz.zeroValue3
 t32:=Tryz.underlying199
 a32:=Tryz.isAgg199
 z32:=Tryz.sizeOf199
 v32:=Tryz.zeroValue199
 t35:=Tryz.underlying247
 a35:=Tryz.isAgg247
 z35:=Tryz.sizeOf247
 v35:=Tryz.zeroValue247
 t36:=Tryz.underlying248
 a36:=Tryz.isAgg248
 z36:=Tryz.sizeOf248
 v36:=Tryz.zeroValue248
 t41:=Tryz.underlying252
 a41:=Tryz.isAgg252
 z41:=Tryz.sizeOf252
 v41:=Tryz.zeroValue252
 t44:=Tryz.underlying255
 a44:=Tryz.isAgg255
 z44:=Tryz.sizeOf255
 v44:=Tryz.zeroValue255
 t46:=Tryz.underlying257
 a46:=Tryz.isAgg257
 z46:=Tryz.sizeOf257
 v46:=Tryz.zeroValue257
 t53:=Tryz.underlying299
 a53:=Tryz.isAgg299
 z53:=Tryz.sizeOf299
 v53:=Tryz.zeroValue299
 t57:=Tryz.underlying105
 a57:=Tryz.isAgg105
 z57:=Tryz.sizeOf105
 v57:=Tryz.zeroValue105
 t63:=Tryz.underlying335
 a63:=Tryz.isAgg335
 z63:=Tryz.sizeOf335
 v63:=Tryz.zeroValue335
 t64:=Tryz.underlying336
 a64:=Tryz.isAgg336
 z64:=Tryz.sizeOf336
 v64:=Tryz.zeroValue336}
end Go.Proofs
namespace Go.Bu
open Go Go.Vc Go.Proofs Go.RowKit Go.Maps Go.Sort Go.Shelf
variable {σ:Hp}
def qV (B:Nat)(h:Hp)(s:Sl)(xs:List Value):Prop:=
 s.len=xs.length/\(xs=[]/\s.a=none\/∃b cs,B<=b/\s.a=some ⟨b,0,none⟩/\bX h b cs/\∀j,j<xs.length->cs[j]?=xs[j]?)
theorem qV.bU {B:Nat}{h h':Hp}{s:Sl}{xs:List Value}{F:Nat->Prop}(hs:qV B h s xs)(e:Ext F h h')(hF:∀b,F b->b<B):qV B h' s xs:=by
 refine⟨hs.1,hs.2.imp id ?_⟩;rintro⟨b,cs,hb,ha,hk,hc⟩;exact⟨b,cs,hb,ha,e.bV hk (λa=>by have:=hF b a;omega),hc⟩
theorem qV.mono {B B':Nat}{h:Hp}{s:Sl}{xs:List Value}(hs:qV B h s xs)(hB:B'<=B):qV B' h s xs:=by
 refine⟨hs.1,hs.2.imp id ?_⟩;rintro⟨b,cs,hb,ha,hk,hc⟩;exact⟨b,cs,O,ha,hk,hc⟩
theorem qV.tj {B:Nat}{h:Hp}{s:Sl}{xs:List Int}(hs:qV B h s (xs.map (Value.int .i64))){i:Nat}{x:Int}(hx:xs[i]?=some x){K:Int->Prop}(hK:K x) :
 Ix s.a s.len (i:Int) 1 λa=>fL .i64 a h K:=by
 have d:i<xs.length:=(cQ.1 hx).1;rcases hs.2 with⟨h0,_⟩|⟨b,cs,_,ha,hb,hc⟩
 ·simp at h0;subst h0;simp at d
 ·rw[ha];refine ix O (by rw[hs.1];simp;omega) ?_;rw[add_lit];refine rl ?_ hK;rw[hb.cell];have:=hc i (by simpa using d);simpa[hx]using this
theorem Gp {w w':World}(h:Below w.heap.size w w'):bO w.heap w'.heap:=⟨h.size,λb a _=>h.block b a⟩
theorem IL {n:Nat}{w w':World}(h:Below n w w'):ZQ w w':=⟨h.os,h.tape,h.output,h.size⟩
def yk:Nat:=Tryz.jI.f 10
def Jz:Nat:=Tryz.jI.t 23
theorem Woo (m:Option Nat){R:Fv->Hp->Prop}(hR:R ⟨yk,#[],#[.pointer (some ⟨σ.size,0,none⟩)]⟩ (σ.push (.cells #[.map m] Jz (0,0)))) :
 Qt.c m σ R:=by
 rintro w rfl;refine(callsIn_wide.1 (AnyZI.keys_in Tryz.qO Fence.wide 5 trivial rfl m w)).mono ?_;rintro e a ⟨rfl,rfl⟩;exact⟨⟨rfl,rfl,rfl,wg (by show _<(w.heap.push _).size;simp)⟩,[.func (.func yk) #[] #[.pointer (some ⟨w.heap.size,0,none⟩)]],rfl,⟨yk,#[],#[.pointer (some ⟨w.heap.size,0,none⟩)]⟩,rfl,hR⟩
def pa (x:Int):Prop:=-9223372036854775808<=x/\x<=9223372036854775807
theorem Hg {P:Program}{kt:Nat}(hk:P.underlying kt=some (.int .i64)){w:World}{m:Nat}{c:CK}{B:List (Int×c.T)}(h:dN w.heap m .i64 c B)(hb:∀x∈B,pa x.1)(hs:B.length<=1000000) :
 ∃D:DataW Unit,w.ownsMap P kt (λ_=>some (.nil,[])) m B.length D/\(intKeys D).Perm (B.map (·.1))/\Maps.size D=B.length:=by
 obtain⟨d,E,M,s,N,J,z⟩:=h;have i:d.size=B.length:=by simpa using congrArg List.length s
 have j:∀e∈d.toList,∃x:Int,e.key=.int .i64 x/\pa x:=by
  intro e hme;have:(e.key,e.val)∈d.toList.map (λe=>(e.key,e.val)):=BD hme;rw[s]at this;obtain⟨y,L,G⟩:=zC.1 this;simp only[Prod.mk.injEq]at G;exact⟨y.1,G.1.symm,hb y L⟩
 have wf:∀x:Int,pa x->(Lit.int .i64 x).wf=true:=by
  rintro x ⟨u,R⟩;simp[Lit.wf,IntKind.min,IntKind.max,IntKind.bits,IntKind.signed];omega
 have r:∀e∈d.toList,∃x:Int,e.key=.int .i64 x/\Go.WideElems.rd P kt (λ_=>some ((.nil:DataW Unit),[])) e=some (.int .i64 x,.nil):=by
  intro e hme;obtain⟨x,g,K⟩:=j e hme;refine⟨x,g,?_⟩;simp[Go.WideElems.rd,keyOf,hk,g,mapKey,wf x K]
 refine⟨.map ((d.toList.map (Go.WideElems.rg P kt (λ_=>some (.nil,[])))).foldr DataW.insert []),⟨d,E,M,⟨?_,⟨λx g=>z x g,?_,?_⟩,λx g=>?_⟩,O,rfl⟩,?_,?_⟩
 ·have:1000000<=maxLen:=by unfold maxLen;omega
  omega
 ·exact J.imp (λh=>zv h)
 ·have C:d.toList.map (·.key)=(B.map (·.1)).map (Value.int .i64):=by
   have:=congrArg (List.map Prod.fst) s;simpa[zk,Function.comp_def]using this
  rw[C];exact List.Pairwise.map _ (λa b (F:a≠b) A=>F (by simpa using A)) N
 ·obtain⟨Q,_,u⟩:=r x g;exact⟨_,u⟩
 ·simp only[intKeys];refine((Go.WideShapes.sorted_perm _).map _).trans ?_;rw[zk];have:d.toList.map ((λp=>Go.intOf p.1)∘Go.WideElems.rg P kt (λ_=>some ((.nil:DataW Unit),[])))=B.map (·.1):=by
   have C:d.toList.map (·.key)=(B.map (·.1)).map (Value.int .i64):=by
    have:=congrArg (List.map Prod.fst) s;simpa[zk,Function.comp_def]using this
   have H:d.toList.map ((λp=>Go.intOf p.1)∘Go.WideElems.rg P kt (λ_=>some ((.nil:DataW Unit),[])))=(d.toList.map (·.key)).map (λv=>match v with | .int _ x=>x|_=>0):=by
    rw[zk];apply ze;intro e hme;obtain⟨x,g,u⟩:=r e hme;simp[Function.comp,Go.WideElems.rg,u,g,Go.intOf]
   rw[H,C,zk]
   conv=>rhs;rw[←AZ (B.map (·.1))]
   rfl
  rw[this]
 ·simp only[Maps.size];rw[(Go.WideShapes.sorted_perm _).length_eq];simp[i]
theorem DS {w:World}{B e n:Nat}{v:Value}{xs:List Value}(h:w.ownsRow B e 1 v n xs):∃s:Sl,v=.slice s.a s.len s.cap/\qV B w.heap s xs:=by
 obtain⟨b,h⟩:=h;rcases h with⟨rfl,rfl⟩|⟨g,cap,cur,rfl,hb,hg,_,_,hcs,ht⟩
 ·exact⟨⟨none,0,0⟩,rfl,by simp at b;simp[b],.inl ⟨by simpa using b,rfl⟩⟩
 ·refine⟨⟨some ⟨g,0,none⟩,n,cap⟩,rfl,by simp at b;simp[b],.inr ⟨g,cur.toList,hb,rfl,⟨e,by simpa using hg⟩,λj d=>?_⟩⟩;rw[←ht,zb,zB O]
theorem WlM {w:World}{c m:Nat}{B:List (Int×Bool)}(hc:cell w.heap ⟨c,0,none⟩=some (.map (some m)))(hm:dN w.heap m .i64 .b B)(hb:∀x∈B,pa x.1)(hs:B.length<=1000000)(n:Nat)(hn:1<=n) :
 SeqGives Fence.wide n Tryz.prog yk #[.pointer (some ⟨c,0,none⟩)] encZ (λss=>ss.Perm (B.map (·.1))) B.length w:=by
 obtain⟨D,r,p,d⟩:=Hg (P:=Tryz.prog) Tryz.qO.t26 hm hb hs;have a:c<w.heap.size:=by
  unfold cell at hc;split at hc
  ·rename_i h;exact(pJ.1 h).1
  ·cases hc
 have:=AnyZI.keys_gives (ρ:=Tryz.jI) {Tryz.qO with} Fence.wide n trivial rfl hn c m B.length D w a hc r;intro l J W hW hJ hY h0;rw[d]at this;refine(this l J W hW hJ hY h0).mono ?_;rintro e W' ⟨j,ss,i,g⟩;exact⟨j,ss,i.trans p,g⟩
theorem LO (m:Nat):AnyZI.SortsIn Tryz.prog Tryz.lO Fence.wide m:=
 ⟨λbV b cap e W g a d=>callsIn_wide.2 (AnyM.slices_Sort_int Tryz.tY bV b cap e W g a d),
  λp cap W=>callsIn_wide.2 (AnyM.slices_Sort_int_none Tryz.tY p cap W)⟩
theorem WgQ {c m:Nat}{B:List (Int×Bool)}(hc:cell σ ⟨c,0,none⟩=some (.map (some m)))(hm:dN σ m .i64 .b B)(hb:∀x∈B,pa x.1)(hs:B.length<=1000000){R:Sl->Hp->Prop}
 (hR:∀(s:Sl) (σ':Hp) (ss:List Int),bO σ σ'->ss.Perm (B.map (·.1))->qV σ.size σ' s (ss.map (Value.int .i64))->R s σ') :
 VE.c ⟨yk,#[],#[.pointer (some ⟨c,0,none⟩)]⟩ σ R:=by
 rintro w rfl;have i:=WlM hc hm hb hs 3 O;have p:B.length<=maxLen:=by unfold maxLen;omega
 have y:=AnyZI.collect_in Tryz.Bd Fence.wide 5 trivial trivial rfl O yk #[.pointer (some ⟨c,0,none⟩)] trivial (Tryz.qO.f10.enters rfl) _ _ p O _ i;refine(callsIn_wide.1 y).mono ?_;rintro e z ⟨v,ss,rfl,u,g,r,d⟩;obtain⟨s,rfl,j⟩:=DS g;exact⟨IL d,[.slice s.a s.len s.cap],rfl,s,rfl,hR s _ ss (Gp d) u j⟩
end Go.Bu
namespace Go.Bu
open Go Go.Vc Go.Proofs
variable {σ:Hp}{p n sb:Nat}{S:Nat->Bool}{ms:List Nat}
theorem T8 {B:Nat}{s:Sl}{xs:List Int}(hs:qV B σ s (xs.map (Value.int .i64)))(hl:xs.length<1000000000){m:Int}(hm:m∈xs)(hle:∀y∈xs,m<=y){R:aN}(hR:R m σ):X4.c s σ R:=by
 refine X4.o ?_;have x:s.len=xs.length:=by simpa using hs.1
 have g:0<xs.length:=List.length_pos_of_mem hm;refine Jn.intro (fJ O ?_);have z:xs[0]?=some xs[0]:=by simp[g]
 refine hs.tj (i:=0) z ?_;refine KA (a:=bN) (bb:=bN) (λ(c t:Int) w=>∃k:Nat,t=(k:Int)/\k<=xs.length/\w=σ/\c∈xs/\∀(j:Nat) (y:Int),j<k->xs[j]?=some y->c<=y) (λ_ t _=>xs.length-t.toNat)
  ⟨1,rfl,O,rfl,zf _,λj y p d=>?_⟩ ?_
 ·have:j=0:=by omega
  subst this;rw[z]at d;cases d;omega
 rintro c t w ⟨k,rfl,G,rfl,u,b⟩;refine cI (λC=>?_) (λE=>?_)
 ·have r:k<xs.length:=by omega
  have A:xs[k]?=some xs[k]:=by simp[r]
  refine hs.tj A (cA (m:=k+1) O O ⟨⟨k+1,rfl,O,rfl,?_,λj y p d=>?_⟩,O⟩)
  ·split
   ·exact zf _
   ·exact u
  ·by_cases e:j=k
   ·subst e;rw[A]at d;cases d;split<;>omega
   ·have:=b j y O d;split<;>omega
 ·have:k=xs.length:=by omega
  subst this;obtain⟨j,p,e⟩:=yM hm;have F:=b j m p (by simp[p,e]);have D:=hle c u;have:c=m:=Int.le_antisymm F D;rw[this];exact hR
def Kx (n:Nat)(S:Nat->Bool)(k:Nat):List Nat:=((List.range n).filter (can S k)).map (· * 2^k)
theorem Wn9 (hb:Bounded S n){k q:Nat}(hc:can S k q=true):q<n:=by
 have:=ZS hb (ZM.1 hc).1;have a:=nM k;have b:q<=q*2^k:=EX _ a;omega
theorem QZ (hb:Bounded S n){k x:Nat}:x∈Kx n S k↔∃q,x=q*2^k/\can S k q=true:=by
 simp only[Kx,zC,zF,zQ];constructor
 ·rintro⟨q,⟨_,hc⟩,rfl⟩;exact⟨q,rfl,hc⟩
 ·rintro⟨q,rfl,hc⟩;exact⟨q,⟨Wn9 hb hc,hc⟩,rfl⟩
theorem HA (n:Nat)(S:Nat->Bool)(k:Nat):(Kx n S k).Pairwise (· < ·):=by
 unfold Kx;refine List.Pairwise.map _ (λa b h=>Nat.mul_lt_mul_of_pos_right h (nM k)) ?_;exact List.Pairwise.sublist vU List.pairwise_lt_range
theorem GB (n:Nat)(S:Nat->Bool)(k:Nat):(Kx n S k).length=many n S k:=by
 simp[Kx,many,Bp]
theorem Wkc {k:Nat}{B:List (Int×Bool)}(hK:Keys S k B)(hn:(B.map (·.1)).Nodup)(hb:Bounded S n):(B.map (·.1)).Perm ((Kx n S k).map λ(x:Nat)=>(x:Int)):=by
 rw[vJ hn]
 ·intro x;simp only[zC];constructor
  ·rintro⟨⟨x1,x2⟩,hm,rfl⟩;obtain⟨_,q,i,d⟩:=hK.1 x1 x2 hm;exact⟨_,(QZ hb).2 ⟨q,rfl,d⟩,i.symm⟩
  ·rintro⟨y,hy,rfl⟩;obtain⟨q,rfl,d⟩:=(QZ hb).1 hy;exact⟨_,hK.2 q d,rfl⟩
 ·refine List.Pairwise.map _ (λa b (g:a<b)=>?_) (HA n S k);intro e;have:a=b:=by exact_mod_cast e
  omega
theorem Wme {k:Nat}{B:List (Int×Bool)}(hK:Keys S k B)(hb:Bounded S n)(hn:n<=1024):∀x∈B,pa x.1:=by
 rintro⟨x,v⟩ hx;obtain⟨_,q,rfl,a⟩:=hK.1 x v hx;have:=ZS hb (ZM.1 a).1;have:=nM k;constructor<;>simp only<;>omega
theorem Wja (h:BH σ p n S sb ms){k:Nat}(hk:ms.length<=k):Kx n S k=[]:=by
 rw[List.eq_nil_iff_forall_not_mem];intro x hx;obtain⟨q,_,a⟩:=(QZ h.kU).1 hx;have:=h.fits (ZS h.kU (ZM.1 a).1);omega
theorem WhE {h:Hp}{v:Value}{e:Nat}:cell (h.push (.cells #[v] e (0,0))) ⟨h.size,0,none⟩=some v:=by simp[cell]
theorem HE (h:Hp)(o:Obj):bO h (h.push o):=Ext.push _ _ _
def gJ (a:Int):Bool:=(List.range 11).any λk=>a==((2^k:Nat):Int)
theorem Ο:(List.range 1025).all (λa=>a==0||((a &&& (a-1))==0)==((List.range 11).any λk=>a==2^k))=true:=by decide +kernel
theorem DB {a:Nat}(h1:1<=a)(h2:a<=1024):((a &&& (a-1))==0)=((List.range 11).any λk=>a==2^k):=by
 have:=nD.1 Ο a (zQ.2 O);simp only[rO,zY]at this;rcases this with h|h
 ·omega
 ·exact h
theorem Fo (a:Nat):gJ (a:Int)=((List.range 11).any λk=>a==2^k):=by
 unfold gJ
 congr 1
 funext k
 rw[qN];simp only[zY];exact⟨λh=>by exact_mod_cast h,λh=>by exact_mod_cast h⟩
def fU (aF align:Int):Bool:=decide (1<=aF)&&(decide (aF<=1024)&&(decide (1<=align)&&(decide (align<=1024)&&gJ align)))
def ZU (n:Nat)(S:Nat->Bool)(aF align:Nat):Nat->Option Nat
 | 0=>none
 | k+1=>match ZU n S aF align k with
  | some x=>some x
  | none=>if aF<=2^k/\align<=2^k then(Kx n S k).head? else none
def Zv (n:Nat)(S:Nat->Bool)(aF align:Nat):Option Nat:=ZU n S aF align 11
def kR (n:Nat)(S:Nat->Bool)(aF align:Int):Int:=if fU aF align then(match Zv n S aF.toNat align.toNat with|some _=>0|none=>6)else 1
def kI (n:Nat)(S:Nat->Bool)(aF align:Int):Nat:=if fU aF align then(match Zv n S aF.toNat align.toNat with|some x=>x|none=>0)else 0
def kA (n:Nat)(S:Nat->Bool)(aF align:Int):Nat->Bool:=if fU aF align then(match Zv n S aF.toNat align.toNat with|some x=>take S x (x+aF.toNat)|none=>S)else S
theorem SE {n:Nat}{S:Nat->Bool}{m a k x:Nat}(h:ZU n S m a k=some x):∀j,k<=j->ZU n S m a j=some x:=by
 intro j hj
 induction j with
 | zero=>
  have:k=0:=by omega
  subst this;exact h
 | succ j ih=>
  by_cases e:k=j+1
  ·subst e;exact h
  ·simp only[ZU,ih O]
theorem WcV (h:BH σ p n S sb ms){m a:Nat}(hn:ZU n S m a ms.length=none):∀j,ms.length<=j->ZU n S m a j=none:=by
 intro j hj
 induction j with
 | zero=>
  have:ms.length=0:=by omega
  rw[this]at hn;exact hn
 | succ j ih=>
  by_cases e:ms.length=j+1
  ·rw[←e];exact hn
  ·simp only[ZU,ih O,Wja h (show ms.length<=j by omega)];simp
theorem Rc {k:Nat}(hpos:0<many n S k):∃x rest,Kx n S k=x::rest:=by
 rw[←GB]at hpos
 match h:Kx n S k with
 | []=>rw[h]at hpos;simp at hpos
 | x::r=>exact⟨x,r,rfl⟩
theorem oW (h:BH σ p n S sb ms)(aF align:Int){R:Int->Int->Hp->Prop}
 (hR:∀σ',Ext (· ∈ ms) σ σ'->BH σ' p n (kA n S aF align) sb ms->R ((kI n S aF align:Nat):Int) (kR n S aF align) σ'):X0.c (aW p) aF align σ R:=by
 refine X0.o ?_;have hn2:=h.n2;have hl:=h.len;have H:fU aF align=false->R 0 1 σ:=λe=>by
  have:=hR σ (Ext.refl _ _);simp only[kA,kI,kR,e,zd,zz]at this;exact this h
 have g:¬(1<=aF/\aF<=1024/\1<=align/\align<=1024)->R 0 1 σ:=λhn=>H (by
  simp only[fU,←Bool.and_assoc,←yj];rw[zg];rfl;omega)
 refine CZ h (cG rfl (bZ.intro ?_));refine cI (λh1=>bZ.intro (cJ rfl (bZ.intro (cJ rfl (bZ.intro (cJ rfl (cJ rfl (g O)))))))) λh1=>?_;refine bZ.intro (cI (λh2=>bZ.intro (cJ rfl (bZ.intro (cJ rfl (cJ rfl (g O)))))) λh2=>?_);refine bZ.intro (cI (λh3=>bZ.intro (cJ rfl (cJ rfl (g O)))) λh3=>?_);refine bZ.intro (cI (λh4=>cJ rfl (g O)) λh4=>?_);obtain⟨a,rfl⟩:=zn (show 0<=align by omega);obtain⟨m,rfl⟩:=zn (show 0<=aF by omega);refine cA (m:=a-1) O O ?_;rw[kQ O O];have K:((((a &&& (a-1):Nat):Int)) != 0) = !gJ (a:Int):=by
  rw[Fo,←DB O O];simp only[bne,Bool.not_inj_iff];rw[qN];simp only[zY];omega
 rw[K];cases P:gJ (a:Int)
 ·refine cJ rfl (H ?_);simp[fU,P]
 refine cG rfl ?_;have M:fU (m:Int) (a:Int)=true:=by
  simp only[fU,P,xi,zG,zV];omega
 refine aG (h.rB λcap=>?_);refine ZV (a:=bN) (λt F=>∃k:Nat,t=(k:Int)/\k<=ms.length/\F=σ/\ZU n S m a k=none) (λt _=>ms.length-t.toNat) ⟨0,rfl,O,rfl,rfl⟩ ?_;rintro t F ⟨k,rfl,hk,rfl,r⟩;refine cI (λV=>?_) (λU=>?_)
 ·simp only at V;obtain⟨mm,Z⟩:=h.get (k:=k) O;refine h.rM Z (qo O (bZ.intro ?_));have next:ZU n S m a (k+1)=none->Ar .i64 ((k:Int)+1) λL=>(∃k:Nat,L=(k:Int)/\k<=ms.length/\F=F/\ZU n S m a k=none)/\ms.length-L.toNat<ms.length-(k:Int).toNat:=
   λG=>cA (m:=k+1) O O ⟨⟨k+1,rfl,O,rfl,G⟩,O⟩
  refine cI (λJ=>?_) (λhsm=>cG rfl (next ?_))
  ·have j:m<=2^k/\a<=2^k:=by
    have:((if(a:Int)>(m:Int)then(a:Int)else(m:Int))<=((2^k:Nat):Int)):=J
    split at this<;>omega
   refine h.nX Z ?_;refine cI (λhpos=>?_) (λhz=>next ?_)
   ·have A:0<many n S k:=by omega
    obtain⟨x,rest,Q⟩:=Rc A;obtain⟨q,rfl,hc⟩:=(QZ h.kU (k:=k) (x:=x)).1 (by rw[Q];simp);have w:Zv n S m a=some (q*2^k):=by
     refine SE (k:=k+1) ?_ 11 O;simp only[ZU,r,zB j,Q,List.head?_cons]
    have hfb:=ZS h.kU (ZM.1 hc).1;obtain⟨B,hB,C⟩:=h.maps k mm Z;have d:=Jp C hB.nodup h.kU;have hle:B.length<=1024:=by
     rw[d];have:=xS (p:=can S k) (l:=List.range n);simp only[many,sH]at *;omega
    refine Woo _ ?_;have Y:=HE F (.cells #[.map (some mm)] Jz (0,0));refine WgQ WhE (Y.gS hB id) (Wme C h.kU h.n2) O λs σ' ss e2 P aa=>?_;have D:=P.trans (Wkc C hB.nodup h.kU);have u:=D.length_eq;simp only[zX]at u;rw[GB,←d]at u;refine T8 aa O (m:=((q*2^k:Nat):Int)) (D.mem_iff.2 (by rw[Q];simp)) (λy hy=>?_) ?_
    ·have E:=D.mem_iff.1 hy;have b:=HA n S k;rw[Q]at E b;simp only[zH,zR,zC]at E;rcases E with rfl|⟨z,hz,rfl⟩
     ·omega
     ·have:=(pB.1 b).1 z hz;omega
    ·have W:=(h.bK Y).bK e2;refine Ji W O (λy hy1 hy2=>Vh hc (Qc.2 O)) λh3 e3 X=>?_;have:=hR h3 ((Y.to.trans e2.to).trans e3);simp only[kA,kI,kR,M,dE,w,zW]at this;exact this X
   ·simp only[ZU,r,zB j];have:Kx n S k=[]:=E7 (by rw[GB];omega);rw[this];rfl
  ·have N:¬(m<=2^k/\a<=2^k):=by
    have:¬((if(a:Int)>(m:Int)then(a:Int)else(m:Int))<=((2^k:Nat):Int)):=hsm
    split at this<;>omega
   simp only[ZU,r,zA N]
 ·simp only at U;have:k=ms.length:=by omega
  subst this;have w:Zv n S m a=none:=WcV h r 11 O;have:=hR F (Ext.refl _ _);simp only[kA,kI,kR,M,dE,w,zW]at this;exact this h
end Go.Bu
namespace Go.Ar
open Go.Bu
structure AR where
 n:Nat
 room:Nat
 tb:List bY
 S:Nat->Bool
 st:List Nat
 ow:Nat->Nat
 cB:List (List cH)
 cE:List fT
 runs:List (Nat×Nat)
def AR.ck (A:AR)(k:Int):Bool:=decide (0<=k)&&decide (k<(A.tb.length:Int))
def Ui (A:AR)(r:Nat×Nat):AR:={A with ow:=lV A.ow r.1 r.2 0,st:=V8 A.st r.1 r.2 2 [1],S:=QW A.n A.S r.1 r.2}
def VZ (A:AR)(rs:List (Nat×Nat)):AR:=rs.foldl Ui A
def cZ (sp:Sp)(size:Nat):Option Nat:=((List.range (sp.st.length/size)).map (· * size)).find? λs=>s != 0&&fI sp s size==0
def U2 (st:List Nat)(a m:Nat):List Nat:=((List.range m).map (a + ·)).foldl (λl (h:Nat)=>kN l h) st
def UZ (A:AR)(sp:Sp)(size:Nat):Option (AR×Sp):=match cZ sp size with
 | none=>none
 | some s=>some ({A with st:=U2 A.st (s/16) (size/16),S:=QW A.n A.S s size},gI sp s size)
def Ke (m:Nat):Nat:=if m<=16 then 16 else if m<=32 then 32 else 64
def dU (A:AR)(x aF no:Nat):AR:={A with S:=take A.S x (x+aF),st:=V8 A.st x aF 1 [2,3],ow:=lV A.ow x aF no}
def dA (A:AR)(sp:Sp)(aF align no:Nat):Option Nat×AR×Sp:=match Zv A.n A.S aF align with
 | some x=>(some x,dU A x aF no,sp)
 | none=>match UZ A sp (Ke (max aF align))with
  | none=>(none,A,sp)
  | some (A',sp')=>match Zv A'.n A'.S aF align with
   | some x=>(some x,dU A' x aF no,sp')
   | none=>(none,A',sp')
def Z9 (A:AR)(k:Int):Int:=if A.ck k then(match A.cE[k.toNat]? with
 | some t=>if t.bs=[]then 4 else 0
 | none=>5)else 1
def YN (A:AR)(k:Int):List Int:=if Z9 A k=0 then(match A.cE[k.toNat]? with
 | some t=>t.bs.getLast?.getD []
 | none=>[])else[]
def ZR (A:AR)(k:Int):AR:=if Z9 A k=0 then{A with cE:=A.cE.modify k.toNat fT.rem}else A
def HU (A:AR)(k:Int)(xs:List Int):Int:=if A.ck k then(match A.tb[k.toNat]?,A.cB[k.toNat]? with
 | some c,some ss=>if xs.length=c.batch then(if xs.all (λx=>eI c ss x==some true)then 0 else 8)else 1
 | _,_=>5)else 1
def Vu (A:AR)(k:Int)(xs:List Int):Bool:=decide (HU A k xs=0)&&(match A.cE[k.toNat]? with
 | some t=>decide (t.bs.length<A.room)
 | none=>false)
def Kh (A:AR)(k:Int)(xs:List Int):AR:=if Vu A k xs then{A with cE:=A.cE.modify k.toNat λt=>{t with bs:=t.bs++[xs]}}else A
def QL (A:AR)(k m:Int):Int:=if A.ck k then(if m<0 then 1 else 0)else 1
def VQ (A:AR)(k m:Int):List Nat×List cH:=match A.tb[k.toNat]?,A.cB[k.toNat]? with
 | some c,some ss=>Ki c m.toNat ss
 | _,_=>([],[])
def Yu (A:AR)(k m:Int):List Nat:=if QL A k m=0 then(VQ A k m).1 else[]
def YR (A:AR)(k m:Int):AR:=if QL A k m=0 then{A with cB:=A.cB.set k.toNat (VQ A k m).2}else A
def Q5 (A:AR)(k:Int)(xs:List Int):Int:=if A.ck k then(match A.tb[k.toNat]?,A.cB[k.toNat]? with
 | some c,some ss=>jM c ss xs
 | _,_=>5)else 1
def Zf (A:AR)(k:Int)(xs:List Int):AR:=if Q5 A k xs=0 then(match A.tb[k.toNat]?,A.cB[k.toNat]? with
 | some c,some ss=>VZ {A with cB:=A.cB.set k.toNat (cK (xs.foldl (fQ c) ss))} ((Z8 (xs.foldl (fQ c) ss)).map λs=>(s,c.aF))
 | _,_=>A)else A
def Va (A:AR)(sp:Sp)(k:Int):Int:=if A.ck k then(match A.tb[k.toNat]?,A.cB[k.toNat]? with
 | some c,some ss=>(match (dA A sp c.aF 1 (k.toNat+1)).1 with
  | some x=>G5 c ss x
  | none=>6)
 | _,_=>5)else 1
def cO (A:AR)(sp:Sp)(k:Int):AR×Sp:=if A.ck k then(match A.tb[k.toNat]?,A.cB[k.toNat]? with
 | some c,some ss=>(match dA A sp c.aF 1 (k.toNat+1)with
  | (some x,A',sp')=>(if G5 c ss x=0 then{A' with cB:=A'.cB.set k.toNat (iQ c ss x)}else A',sp')
  | (none,A',sp')=>(A',sp'))
 | _,_=>(A,sp))else(A,sp)
def Ky (m a:Int):Bool:=decide (1<=m)&&(decide (m<=64)&&(a==1||(a==2||(a==4||(a==8||a==16)))))
def QG (A:AR)(sp:Sp)(m a:Int):Int:=if Ky m a then(if(dA A sp m.toNat a.toNat 41).1.isSome then 0 else 6)else 1
def Z7 (A:AR)(sp:Sp)(m a:Int):Nat:=if Ky m a then(dA A sp m.toNat a.toNat 41).1.getD 0 else 0
def cD (A:AR)(sp:Sp)(m a:Int):AR×Sp:=if Ky m a then(match dA A sp m.toNat a.toNat 41 with
 | (some x,A',sp')=>({A' with runs:=mset2 A'.runs x m.toNat},sp')
 | (none,A',sp')=>(A',sp'))else(A,sp)
where mset2 (l:List (Nat×Nat)) (x m:Nat):List (Nat×Nat):=if l.any (λr=>r.1==x)then l.map (λr=>if r.1==x then(x,m)else r)else l++[(x,m)]
def uz (A:AR)(x:Int):Option (Nat×Nat):=A.runs.find? λr=>(r.1:Int)==x
def Ve (A:AR)(x:Int):Int:=if(uz A x).isSome then 0 else 8
def QO (A:AR)(x:Int):AR:=match uz A x with
 | some r=>Ui {A with runs:=A.runs.filter λq=>!((q.1:Int)==x)} r
 | none=>A
def vL (A:AR)(p:Nat):Option (Nat×Nat):=A.runs.find? λr=>decide (r.1<=p)&&decide (p<r.1+r.2)
def Ha (A:AR)(x:Int):Option (Int×Nat):=if x<0 then none else
 let p:=x.toNat/256
 let no:=if p<1024 then A.ow p else 0
 if no=0 then none else if no=41 then(vL A p).map λr=>(-1,r.1*256)else
 match A.tb[no-1]?,A.cB[no-1]? with
 | some c,some ss=>(uZ c ss x).map λa=>(((no-1:Nat):Int),a)
 | _,_=>none
def A6 (A:AR)(x:Int):Bool:=match Ha A x with
 | some (k,a)=>if(a:Int)=x then(if k<0 then true else(match A.tb[k.toNat]?,A.cB[k.toNat]? with
  | some c,some ss=>eI c ss x==some true
  | _,_=>false))else false
 | none=>false
def V7 (A:AR)(p:Int):Bool:=decide (0<=p)&&decide (A.st.getD p.toNat 0≠0)
def QV (A:AR)(k:Nat):AR:=match A.tb[k]?,A.cB[k]? with
 | some c,some ss=>VZ {A with cB:=A.cB.set k (cK ss)} ((Z8 ss).map λs=>(s,c.aF))
 | _,_=>A
def YL (A:AR):AR:=(List.range A.tb.length).foldl QV A
def fF (p:AR×Sp)(r:Nat×Nat):AR×Sp:=({p.1 with st:=V8 p.1.st r.1 r.2 3 [2]},dX p.2 r.1 r.2 1)
def Uo (A:AR)(want:Int):List (Nat×Nat):=Ht (YL A).st want
def dV (A:AR)(sp:Sp)(want:Int):AR×Sp:=if want<0 then(A,sp)else(Uo A want).foldl fF (YL A,sp)
def mZ (A:AR)(want:Int):Nat:=if want<0 then 0 else((Uo A want).map (·.2)).sum
def VB (p:AR×Sp)(h:Nat):AR×Sp:=({p.1 with st:=lD p.1.st h,S:=lU p.1.n p.1.S ((h*16:Nat):Int) 16},dX p.2 ((h*16:Nat):Int) 16 0)
def eL (A:AR)(sp:Sp):AR×Sp:=(Kt A.st 0).foldl VB (A,sp)
def yX (A:AR):Nat:=(Kt A.st 0).length
def KH (A:AR)(k:Nat):AR:=match A.cE[k]? with
 | some t=>t.out.foldl (λA' xs=>Zf A' k xs) {A with cE:=A.cE.set k t.tick}
 | none=>A
def Hr (A:AR):AR:=(List.range A.cE.length).foldl KH A
def Kd (A:AR):Nat:=((A.tb.zip A.cE).map λx=>x.2.bs.flatten.length*x.1.size).sum
def Ue (A:AR):Nat:=((A.tb.zip A.cB).map λx=>Q6 x.2*x.1.size).sum
def QN (A:AR):Nat:=((A.tb.zip A.cB).map λx=>x.2.length*x.1.tail).sum
def Vf (A:AR):Nat:=((A.tb.zip A.cB).map λx=>x.2.length*x.1.aF).sum
def VD (A:AR):Nat:=(A.runs.map (·.2)).sum
end Go.Ar
namespace Go.Ar
open Go.Vc (bW dG cR)
inductive Ph where
 | take (k:Nat)
 | cN (k w:Nat)
 | cP (k w:Nat)
 | grow (k w:Nat)
 | fill
 | eU (m:Nat)
 | find (x:Int)
 | put (k:Nat) (x:Int)
 | back
 | dK (s a:Int)
 | drain
 deriving DecidableEq
structure Th where
 ls:List Li
 bP:List Bt
 ph:Option Ph
structure Cf where
 aF:Nat
 iO:Nat
 threads:Nat
 dD:Nat
 room:Nat
abbrev Bk:=Int×Int×Int×Int
structure Hw where
 tb:List bY
 cf:Cf
 sp:Sp
 bT:List AR
 bR:List Th
 live:List (Int×Bk)
def YM (bT:List AR)(x:Int):Int:=if x<0 then -1 else match bT.findIdx? (λA=>V7 A (x/256))with
 | some i=>(i:Int)
 | none=>-1
def Hw.own (H:Hw)(t:Nat):Nat:=t%H.bT.length
def Hw.eA (H:Hw)(t:Nat)(f:Th->Th):Hw:={H with bR:=H.bR.modify t f}
def Hw.cC (H:Hw)(k:Nat)(A:AR):Hw:={H with bT:=H.bT.set k A}
def VW (H:Hw)(x size cls:Int):Hw:={H with live:=dG H.live x (x,size,cls,YM H.bT x)}
def Q2 (H:Hw)(t k:Nat)(xs:List Int):Hw:=H.eA t λh=>{h with bP:=h.bP++[(k,xs)]}
def mX (H:Hw)(t:Nat):Option Ph:=match H.bR[t]? with
 | some h=>if h.bP=[]then none else some .back
 | none=>none
def ZY (bT:List AR)(xs:List Int)(a:Nat):List Int:=xs.filter λx=>YM bT x==(a:Int)
def Vq (H:Hw)(k:Nat)(part:Nat->List Int)(l:List Nat):Hw:=l.foldl (λH a=>match H.bT[a]? with
 | some A=>if part a=[]then H else H.cC a (Zf A (k:Int) (part a))
 | none=>H) H
def Gi (H:Hw)(own k:Nat)(xs:List Int):Hw:=match H.bT[own]? with
 | some A=>if(ZY H.bT xs own).length=xs.length/\Vu A (k:Int) xs=true then H.cC own (Kh A (k:Int) xs)
  else Vq (if(ZY H.bT xs own).length=xs.length then H.cC own (Kh A (k:Int) xs)else H) k (ZY H.bT xs) (List.range H.bT.length)
 | none=>H
abbrev xD:=Hw×Option Ph×Int×Int
def pR (H:Hw)(x:Int):Int:=if 0<=YM H.bT x then(match H.bT[(YM H.bT x).toNat]? with
 | some A=>(match Ha A x with
  | some (k,y)=>if 0<=k/\(y:Int)=x then 9 else 8
  | none=>8)
 | none=>8)else 8
def Hb (H:Hw)(t:Nat)(x:Int):xD:=match bW H.live x with
 | none=>(H,none,0,pR H x)
 | some b=>if b.2.2.1<0 then({H with live:=cR H.live x},some (.dK (x/256) b.2.2.2),0,0)
  else(Q2 {H with live:=cR H.live x} t b.2.2.1.toNat [x],some (.put b.2.2.1.toNat x),0,0)
def Hw.mG (H:Hw)(t:Nat):Th:=H.bR.getD t ⟨[],[],none⟩
def Hw.cls (H:Hw)(k:Nat):bY:=H.tb.getD k ⟨8,1,1⟩
def Hw.eO (H:Hw)(t:Nat):AR:=H.bT.getD (H.own t) ⟨0,0,[],λ_=>false,[],λ_=>0,[],[],[]⟩
def Th.li (h:Th)(k:Nat):Li:=h.ls.getD k gT
def Th.jA (h:Th)(k:Nat)(l:Li):Th:={h with ls:=h.ls.set k l}
def iZ (H:Hw)(t k:Nat)(x:Int):Hw:=
 let c:=H.cls k
 let l:=(H.mG t).li k
 let H1:=H.eA t λh=>h.jA k (dR c x l).2
 let H2:=if(dR c x l).1=[]then H1 else Q2 H1 t k (dR c x l).1
 let H3:=H2.eA t λh=>{h with bP:=h.bP.drop 1}
 if H.cf.dD<Qm H.tb (H3.mG t).ls then H3.eA t λh=>{h with ls:=Kl KY H.tb h.ls,bP:=h.bP++Ko KY H.tb h.ls}else H3
def Wt (H:Hw)(t:Nat):Ph->xD
 | .take k=>match Km (H.cls k) ((H.mG t).li k)with
  | (some x,l)=>(VW (H.eA t λh=>h.jA k l) x ((H.cls k).size:Int) (k:Int),none,x,0)
  | (none,l)=>(H.eA t λh=>h.jA k l,some (.cN k (tW (H.cls k) l)),0,0)
 | .cN k w=>if w=(H.cls k).batch then(if Z9 (H.eO t) (k:Int)=0 then(Q2 (H.cC (H.own t) (ZR (H.eO t) (k:Int))) t k (YN (H.eO t) (k:Int)),some .fill,0,0)else(H,some (.cP k w),0,0))else(H,some (.cP k w),0,0)
 | .cP k w=>
  let H1:=H.cC (H.own t) (YR (H.eO t) (k:Int) (w:Int))
  if Yu (H.eO t) (k:Int) (w:Int)=[]then(H1,some (.grow k w),0,0)else(Q2 H1 t k ((Yu (H.eO t) (k:Int) (w:Int)).map λ(x:Nat)=>(x:Int)),some .fill,0,0)
 | .grow k w=>
  let r:=cO (H.eO t) H.sp (k:Int)
  let H1:={H.cC (H.own t) r.1 with sp:=r.2}
  if Va (H.eO t) H.sp (k:Int)=0 then(H1,some (.cP k w),0,0)else(H1,none,0,Va (H.eO t) H.sp (k:Int))
 | .fill=>match (H.mG t).bP with
  | (k,x::xs)::_=>(VW (H.eA t λh=>{ls:=h.ls.set k (eM xs.reverse (h.li k)),bP:=[],ph:=h.ph}) x ((H.cls k).size:Int) (k:Int),none,x,0)
  | _=>(H,none,0,0)
 | .eU m=>
  let r:=cD (H.eO t) H.sp (m:Int) 1
  let H1:={H.cC (H.own t) r.1 with sp:=r.2}
  let x:Int:=((Z7 (H.eO t) H.sp (m:Int) 1*256:Nat):Int)
  if QG (H.eO t) H.sp (m:Int) 1=0 then(VW H1 x ((m*256:Nat):Int) (-1),none,x,0)else(H1,none,0,QG (H.eO t) H.sp (m:Int) 1)
 | .find x=>Hb H t x
 | .put k x=>(iZ H t k x,mX (iZ H t k x) t,0,0)
 | .back=>match (H.mG t).bP with
  | (k,xs)::r=>
   let H1:=Gi (H.eA t λh=>{h with bP:=r}) (H.own t) k xs
   (H1,mX H1 t,0,0)
  | []=>(H,none,0,0)
 | .dK s a=>(match H.bT[a.toNat]? with
  | some A=>H.cC a.toNat (QO A s)
  | none=>H,none,0,0)
 | .drain=>
  let H1:=H.eA t λh=>{h with ls:=Kl ZZ H.tb h.ls,bP:=Ko ZZ H.tb h.ls}
  (H1,mX H1 t,0,0)
end Go.Ar
namespace Go.Proofs
open Go.Vc
set_option maxRecDepth 100000
def ZH.h:Hn:=.q .o1 (.q (.q (.cV (.seq [.op,.op,.op,.op,.dB false 3 (RI.ops 3)])) .aK) (.q (.q .o3 (.k (.loop [(15,.I)] (.q .o1 (.q (.c .l .l) (.q (.k (.q .o6 (.q (.cV (.iH true [1] [(37,.one .b)] (.take 0 (.all [(1,.take 2 (.take 3 (.split 23 (.take 4 (.take 5 (.take 6 (.take 7 (.take 8 (.take 9 (.take 10 (.take 11 (.take 12 (.take 13 (.take 14 (.take 15 (.take 16 (.take 17 (.done))))))))))))))) (.take 4 (.take 5 (.take 6 (.split 26 (.take 7 (.take 9 (.take 10 (.take 11 (.take 12 (.take 13 (.all [(8,.all [(14,.take 15 (.take 16 (.take 17 (.done))))]),(14,.all [(8,.take 15 (.take 16 (.take 17 (.done))))])]))))))) (.take 7 (.take 8 (.take 9 (.take 10 (.take 11 (.take 12 (.take 13 (.take 14 (.take 15 (.take 16 (.take 17 (.done)))))))))))))))))))])))) .aK))) .o2)))))) .aM))
theorem ZH.o {a:Sl}{b:Hp}{c:aO}(d:bZ (λd e=>If d (c false e) (Xb [bN] (λf=>f 0 e) λg (h:Int) i=>If (h<((a.len:Nat):Int)) (Ix a.a a.len h 3 λj=>aQ j 0 i λk=>aQ j 1 i λl=>aQ j 2 i λm=>aV #[.I 0,.I 0,.I 0] 31 i λn o=>aR n 0 (.I k) o λp=>aR n 1 (.I l) p λq=>aR n 2 (.I m) q λr=>Jn [.b] (λ(s:Bool) t=>If s (c false t) (bL (h+1) λu=>g u t)) λv=>dT r λw=>aS w n 0 λx=>aS w n 1 λy=>aS w n 2 λz=>QE.c x y z r λaa ab=>If (!aa) (v true ab) (If (h>0) (bL (h-1) λac=>Ix a.a a.len ac 3 λad=>(aQ n 0 ab λae=>aQ ad 0 ab λaf=>v (decide (ae<=af)) ab) ∧ (aQ ad 0 ab λag=>aQ n 0 ab λah=>v (decide (ah<=ag)) ab)) (v false ab))) (c true i))) λai=>If (((a.len:Nat):Int)<1) (ai true b) (ai (decide (((a.len:Nat):Int)>40)) b)):ZH.c a b c:=Wa Tryz.func40 (x:=ZH.h) (R0 d)
def Z3.h:Hn:=.q .o4 (.q (.k (.q .o4 (.c .aL (.q (.cV (.iH true [] [(13,.one .b)] (.tk [0,1,2] (.split 16 (.tk [3,4,5,6,7,8,9,10,11,12,13,14,15,16] (.done)) (.tk [3,4,5,6] (.split 20 (.tk [7,8,9,10,11,12,13,14,15,16] (.done)) (.tk [7,8,9,10] (.split 24 (.tk [11,12,13,14,15,16] (.done)) (.take 11 (.take 13 (.all [(12,.take 14 (.take 15 (.take 16 (.done))))]))))))))))) .aJ)))) (.q .o4 (.q (.q .o2 .aJ) (.q .o3 .l))))
theorem Z3.o {a:Sl}{b c:Int}{d:Hp}{e:Int->Int->Hp->Prop}(f:aV #[.I b] 3 d λf g=>aV #[.I c] 3 g λh i=>ZH.c a i λj k=>If (!j) (e 0 2 k) (Jn [.b] (λ(l:Bool) m=>If l (e 0 1 m) (Wl.c a ⟨80,#[],#[.pointer (some f),.pointer (some h)]⟩ m λn o=>If (n<0) (e 0 4 o) (e n 0 o))) λp=>dT k λq=>gW q bN f λ(r:Int)=>If (r<1) (p true k) (gW q bN h λ(s:Int)=>If (s<1) (p true k) (gW q bN h λ(t:Int)=>If (t>256) (p true k) (gW q bN h λ(u:Int)=>gW q bN h λ(v:Int)=>Qh.c u k λw x=>And (q x) <| p (w != v) x))))):Z3.c a b c d e:=Wa Tryz.func41 (x:=Z3.h) (R0 f)
def Ze.h:Hn:=.q .o3 (.q (.q .o3 .aJ) (.q .o4 .l))
theorem Ze.o {a b c:Int}{d:Hp}{e:Int->Int->Hp->Prop}(f:aV #[.I a,.I b,.I c] 31 d λf g=>aQ f 0 g λh=>aQ f 1 g λi=>aQ f 2 g λj=>QE.c h i j g λk l=>If (!k) (e 0 1 l) (aQ f 0 l λm=>aQ f 1 l λn=>aQ f 2 l λo=>ZF.c m n o l λp q=>e p 0 q)):Ze.c a b c d e:=Wa Tryz.func42 (x:=Ze.h) (R0 f)
def Qr.h:Hn:=.q .o3 (.q (.q .o3 .aJ) (.q (.cV (.held true [] (.tk [0,1,2,3,5,6] (.all [(4,.tk [7,8,9,10] (.done))])))) .l))
theorem Qr.o {a b c:Int}{d:Hp}{e:Int->Int->Hp->Prop}(f:aV #[.I a,.I b,.I c] 31 d λf g=>aQ f 0 g λh=>aQ f 1 g λi=>aQ f 2 g λj=>QE.c h i j g λk l=>If (!k) (e 0 1 l) (dT l λm=>aS m f 1 λn=>bL (n*256) λo=>aS m f 0 λp=>aS m f 1 λq=>aS m f 2 λr=>aS m f 0 λs=>ZF.c p q r l λt u=>And (m u) <| bL (t*s) λv=>bL (o-v) λw=>e w 0 u)):Qr.c a b c d e:=Wa Tryz.func43 (x:=Qr.h) (R0 f)
def QE.h:Hn:=.q .o2 (.q (.cV (.seq [.op,.op,.op,.op,.dB true 3 (RI.ops 3),.op,.dB true 4 (RI.ops 4),.op,.dB true 3 (RI.ops 3),.op,.dB true 3 (RI.ops 3),.op,.dB true 6 (RI.ops 6),.op,.dB true 3 (RI.ops 3),.op,.dB true 3 (RI.ops 3),.op])) .l)
theorem QE.o {a b c:Int}{d:Hp}{e:aO}(f:aV #[.I a,.I b,.I c] 31 d λf g=>aQ f 0 g λh=>bZ (λi j=>bZ (λk l=>bZ (λm n=>bZ (λo p=>bZ (λq r=>bZ (λs t=>bZ (λu v=>e u v) λw=>If s (aQ f 2 t λx=>w (decide (x<=32)) t) (w false t)) λy=>If q (aQ f 2 r λz=>y (decide (z≥1)) r) (y false r)) λaa=>If o (aQ f 1 p λab=>bL (ab*256) λac=>aQ f 0 p λad=>aa (decide (ac≥ad)) p) (aa false p)) λae=>If m (aQ f 1 n λaf=>ae (decide (af<=4)) n) (ae false n)) λag=>If k (aQ f 1 l λah=>ag (decide (ah≥1)) l) (ag false l)) λai=>If i (aQ f 0 j λaj=>Nz 8 <| ai ((aj.tmod 8)==0) j) (ai false j)) λak=>If (h≥8) (aQ f 0 g λal=>ak (decide (al<=512)) g) (ak false g)):QE.c a b c d e:=Wa Tryz.func77 (x:=QE.h) (R0 f)
def Qh.h:Hn:=.q .o1 (.q .o1 (.q (.q .o1 (.k (.loop [(3,.I),(4,.I)] (.q (.q .o3 (.c .l .l)) (.q (.k .o2) .o3))))) .aL))
theorem Qh.o {a:Int}{b:Hp}{c:aN}(d:Xb [bN,bN] (λd=>d 0 1 b) λe (f:Int) (g:Int) h=>If (g<=a) (bL (g*2) λi=>e g i h) (c f h)):Qh.c a b c:=Wa Tryz.func78 (x:=Qh.h) (R0 d)
def Z0.h:Hn:=.q .o2 (.q (.cV (.seq [.op,.op,.op,.op,.op,.dB true 5 (RI.ops 5),.op])) .l)
theorem Z0.o {a b c:Int}{d e:Addr}{f:Hp}{g:aO}(h:aV #[.I a,.I b,.I c] 31 f λh i=>aQ h 0 i λj=>bM d i λk=>bZ (λl m=>g l m) λn=>If (j≥k) (aQ h 0 i λo=>bM e i λp=>Nz p <| n ((o.tmod p)==0) i) (n false i)):Z0.c a b c d e f g:=Wa Tryz.func80 (x:=Z0.h) (R0 h)
def ZF.h:Hn:=.q .o2 (.q .o7 .l)
theorem ZF.o {a b c:Int}{d:Hp}{e:aN}(f:aV #[.I a,.I b,.I c] 31 d λf g=>aQ f 1 g λh=>bL (h*256) λi=>aQ f 0 g λj=>Nz j<|bL (i.tdiv j) λk=>e k g):ZF.c a b c d e:=Wa Tryz.func81 (x:=ZF.h) (R0 f)
end Go.Proofs
namespace Go.Ar
open Go Go.Vc Go.Proofs
variable {σ:Hp}
theorem Em (x y z:Int){R:aO}(hR:∀σ',bO σ σ'->R (UC x y z) σ'):QE.c x y z σ R:=by
 refine QE.o ?_;refine nw (cs:=[.int .i64 x,.int .i64 y,.int .i64 z]) λh A e b=>?_;have w:UC x y z=false->R false h:=λg=>g▸hR h e;have a:¬(8<=x/\x<=512/\x%8=0/\1<=y/\y<=4/\x<=y*256/\1<=z/\z<=32)->R false h:=λg=>w (by rw[←uR,Hv];exact g);refine b.rI rfl (bZ.intro ?_);refine cI (λm=>b.rI rfl (bZ.intro ?_)) λm=>?_
 case refine_2=>
  iterate 6 refine bZ.intro (cG rfl ?_)
  exact a O
 refine cI (λj=>b.rI rfl (nz aB (bZ.intro ?_))) λj=>?_
 case refine_2=>
  iterate 5 refine bZ.intro (cG rfl ?_)
  exact a O
 rw[Kj O];refine cU (λd=>b.rI rfl (bZ.intro ?_)) λd=>?_
 case refine_2=>
  have:¬x%8=0:=by simpa using d
  iterate 4 refine bZ.intro (cG rfl ?_)
  exact a O
 have r:x%8=0:=by simpa using d
 refine cI (λs=>b.rI rfl (bZ.intro ?_)) λs=>?_
 case refine_2=>
  iterate 3 refine bZ.intro (cG rfl ?_)
  exact a O
 refine cI (λu=>b.rI rfl (ar O O (b.rI rfl (bZ.intro ?_)))) λu=>?_
 case refine_2=>
  iterate 2 refine bZ.intro (cG rfl ?_)
  exact a O
 refine cI (λp=>b.rI rfl (bZ.intro ?_)) λp=>?_
 case refine_2=>exact bZ.intro (cG rfl (a O))
 refine cI (λi=>b.rI rfl ?_) λi=>a O;have:decide (z<=32)=UC x y z:=by
  rw[qN,Hv];simp;omega
 rw[this];exact hR h e
theorem MK {c:bY}(hc:c.ok){R:aN}(hR:∀σ',bO σ σ'->R (c.n:Int) σ'):ZF.c c.size c.aF c.batch σ R:=by
 refine ZF.o ?_;have h:=hc;unfold bY.ok at h;refine nw (cs:=[.int .i64 c.size,.int .i64 c.aF,.int .i64 c.batch]) λh b e a=>?_;refine a.rI rfl (cA (m:=c.aF*256) aA O (a.rI rfl (nz O ?_)));refine cA (m:=c.n) ?_ (by have:=hc.lI;omega) (hR _ e);rw[Yb O];simp[bY.n]
theorem UU (x y z:Int){R:Int->Int->Hp->Prop}(h1:∀c:bY,c.ok->x=c.size->y=c.aF->z=c.batch->∀σ',bO σ σ'->R (c.n:Int) 0 σ')(h0:UC x y z=false->∀σ',bO σ σ'->R 0 1 σ'):Ze.c x y z σ R:=by
 refine Ze.o ?_;refine nw (cs:=[.int .i64 x,.int .i64 y,.int .i64 z]) λh j e b=>?_;refine b.rI rfl (b.rI rfl (b.rI rfl (Em _ _ _ λm d=>?_)));have a:=d.bV b id;cases hk:UC x y z
 ·exact cJ rfl (h0 hk _ (e.trans d))
 ·obtain⟨c,g,_,rfl,rfl,rfl⟩:=Cp hk;exact cG rfl (a.rI rfl (a.rI rfl (a.rI rfl (MK g λp i=>h1 c g rfl rfl rfl _ ((e.trans d).trans i)))))
theorem Ls {c:bY}(hc:c.ok){R:Int->Int->Hp->Prop}(hR:∀σ',bO σ σ'->R (c.tail:Int) 0 σ'):Qr.c c.size c.aF c.batch σ R:=by
 refine Qr.o ?_;have h:=hc;unfold bY.ok at h;refine nw (cs:=[.int .i64 c.size,.int .i64 c.aF,.int .i64 c.batch]) λs p e g=>?_;refine g.rI rfl (g.rI rfl (g.rI rfl (Em _ _ _ λr i=>?_)));rw[(UM c).2 hc];have d:=i.bV g id;refine cG rfl ?_;refine⟨λb=>bX b σ.size [.int .i64 c.size,.int .i64 c.aF,.int .i64 c.batch],d,⟨_,λb a=>by rw[add_lit,a.cell];rfl,?_⟩⟩;refine cA (m:=c.aF*256) aA O ?_;refine⟨_,λb a=>by rw[add_lit,a.cell];rfl,⟨_,λb a=>by rw[add_lit,a.cell];rfl,⟨_,λb a=>by rw[add_lit,a.cell];rfl,⟨_,λb a=>by rw[add_lit,a.cell];rfl,?_⟩⟩⟩⟩;refine MK hc λw j=>⟨j.bV d id,?_⟩;have u:=c.sL;refine cA (m:=c.n*c.size) aA O (cA (m:=c.tail) (by unfold bY.tail;omega) (by unfold bY.tail;omega) (hR _ ((e.trans i).trans j)))
end Go.Ar
namespace Go.Proofs
open Go.Vc
set_option maxRecDepth 100000
def X8.h:Hn:=.q .o1 (.q (.q (.cV (.seq [.op,.op,.op,.op,.dB false 2 [.op,.op],.op,.dB false 7 (RI.ops 7)])) .aK) (.q .o8 .l))
theorem X8.o {a:R2}{b:Int}{c:Hp}{d:aN}(e:WW.c a c λe f=>bZ (λg h=>bZ (λi j=>If i (d (-1) j) (bE a 0 j λl=>Ix l.a l.len b 1 λm=>bM m j λn=>d n j)) λo=>If g (o true h) (bE a 0 h λq=>o (decide (b≥((q.len:Nat):Int))) h)) λr=>If (!e) (r true f) (r (decide (b<0)) f)):X8.c a b c d:=Wa Tryz.func143 (x:=X8.h) (R0 e)
def WW.h:Hn:=.q .o1 (.q (.cV (.seq [.op,.op,.op,.dB true 6 (RI.ops 6),.op])) .l)
theorem WW.o {a:R2}{b:Hp}{c:aO}(d:bZ (λd e=>c d e) λf=>If (!a.isNone) (bE a 0 b λh=>f (decide (((h.len:Nat):Int)>0)) b) (f false b)):WW.c a b c:=Wa Tryz.func149 (x:=WW.h) (R0 d)
def KJ.h:Hn:=.q .o2 (.q (.q (.cV (.seq [.op,.op,.op,.dB false 2 [.op,.op],.op,.dB false 3 (RI.ops 3)])) .aJ) (.q .o6 .l))
theorem KJ.o {a:Int}{b:Hp}{c:Option Addr->Int->Hp->Prop}(d:bZ (λd e=>bZ (λf g=>If f (c none 1 g) (Mk a a 8 3 [.I 0] g λh i=>aV #[.slice h.a h.len h.cap] 231 i λj k=>c (some j) 0 k)) λl=>If d (l true e) (Nz 16 <| l ((a.tmod 16) != 0) e)) λm=>If (a<16) (m true b) (m (decide (a>1024)) b)):KJ.c a b c:=Wa Tryz.func155 (x:=KJ.h) (R0 d)
def Yy.h:Hn:=.q .o3 (.scope (.q (.k (.q .o4 (.c .aL (.q .o3 .aJ)))) (.q .o1 (.q (.q .o3 (.k (.loop [(6,.one .s),(23,.I)] (.q .o1 (.q (.c .l .l) (.q (.k (.q .o2 (.q .o5 (.c .o5 .l)))) .o2)))))) (.q .o3 (.q .o1 (.q .o1 (.q .l (.q (.q .o3 (.k (.loop [(8,.one .s),(9,.I),(41,.I)] (.q .o1 (.q (.c .l .l) (.q (.k (.q .o3 (.q .o1 (.k (.loop [(8,.one .s),(9,.I),(12,.I)] (.q (.q .o2 (.c .l .l)) (.q (.k (.q (.q .o3 (.c .l .l)) (.q .o1 (.q (.k (.loop [(13,.I)] (.q (.q (.cV (.seq [.op,.op,.op,.op,.op,.dB true 9 (RI.ops 9)])) (.c .l .l)) (.k .o3)))) (.q .o2 (.c (.q .fR (.q .o4 .o4)) .l)))))) .o3))))))) .o2)))))) (.q .o3 .l))))))))))
theorem Yy.o {a:R2}{b:Int}{c:Hp}{d:Sl->Int->Hp->Prop}(e:aV #[.pointer a] 172 c λe f=>fY e f λg=>WW.c g f λh i=>If (!h) (d ⟨none,0,0⟩ 5 i) (If (b<0) (d ⟨none,0,0⟩ 1 i) (fY e i λj=>XN.c j i λk l=>Xb [.s,bN] (λm=>m ⟨none,0,0⟩ 0 l) λn (o:Sl) (p:Int) q=>If (p<k) (fY e q λr=>Xm.c r p q λs t=>ZL.c s 2 t λu v=>If (u>0) (aV #[.I p] 3 v λw x=>App o 1 8 3 [.I 0] ⟨some w,1,1⟩ x λy z=>bL (p+1) λaa=>n y aa z) (bL (p+1) λab=>n o ab v)) (WR.c o ⟨233,#[],#[.pointer (some e)]⟩ q λac=>Xb [.s,bN,bN] (λad=>ad ⟨none,0,0⟩ 0 0 ac) λae (af:Sl) (ag:Int) (ah:Int) ai=>If (ah<((o.len:Nat):Int)) (Ix o.a o.len ah 1 λaj=>bM aj ai λak=>Xb [.s,bN,bN] (λal=>al af ag 0 ai) λam (an:Sl) (ao:Int) (ap:Int) aq=>If (ap<16) (If (ao≥b) (d an 0 aq) (Xb [bN] (λar=>ar 0 aq) λau (av:Int) aw=>bL (ap+av) λax=>bZ (λay az=>If ay (bL (av+1) λa0=>au a0 az) (If (av>0) (bL (ak*16) λa1=>bL (a1+ap) λa2=>aV #[.I a2,.I av] 92 az λa3 a4=>App an 2 16 92 [.I 0,.I 0] ⟨some a3,1,1⟩ a4 λa5 a6=>bL (ao+av) λa7=>bL (ap+av) λa8=>bL (a8+1) λa9=>am a5 a7 a9 a6) (bL (ap+1) λba=>am an ao ba az))) λbb=>If (ax<16) (fY e aw λbc=>Xm.c bc ak aw λbd be=>bL (ap+av) λbf=>Ix bd.a bd.len bf 1 λbg=>bM bg be λbh=>bb (bh==2) be) (bb false aw))) (bL (ah+1) λbi=>ae an ao bi aq)) (d af 0 ai))))):Yy.c a b c d:=Wa Tryz.func191 (x:=Yy.h) (R0 e)
def W8.h:Hn:=.q .o1 (.q .o6 .l)
theorem W8.o {a:R2}{b c:Int}{d:Hp}{e:aN}(f:aV #[.I 2] 3 d λf g=>Xs.c a b c 3 ⟨some f,1,1⟩ g λh i=>e h i):W8.c a b c d e:=Wa Tryz.func192 (x:=W8.h) (R0 f)
def Yw.h:Hn:=.q .o1 (.q .o3 .l)
theorem Yw.o {a:R2}{b:Hp}{c:Sl->Hp->Prop}(d:X2.c a 0 b λd e=>c d e):Yw.c a b c:=Wa Tryz.func194 (x:=Yw.h) (R0 d)
def Xj.h:Hn:=.q .o1 (.q .o8 (.q (.k (.q .o3 (.c .aL (.q .o4 .aK)))) (.q .o2 .aM)))
theorem Xj.o {a:R2}{b:Int}{c:Hp}{d:aN}(e:XZ.c a b c λe f g=>If (f != 0) (d f g) (Kb.c e g λh i=>If (!h) (d 5 i) (Qu.c e 0 i λj=>d 0 j))):Xj.c a b c d:=Wa Tryz.func195 (x:=Xj.h) (R0 e)
def XD.h:Hn:=.q .o1 (.q .o6 .l)
theorem XD.o {a:R2}{b c:Int}{d:Hp}{e:aN}(f:aV #[.I 1] 3 d λf g=>Xs.c a b c 2 ⟨some f,1,1⟩ g λh i=>e h i):XD.c a b c d e:=Wa Tryz.func225 (x:=XD.h) (R0 f)
def XN.h:Hn:=.q .o1 (.q .o7 .l)
theorem XN.o {a:R2}{b:Hp}{c:aN}(d:bQ a λd=>aX d 0 b λe=>Nz 16<|bL (((e.len:Nat):Int).tdiv 16) λf=>c f b):XN.c a b c:=Wa Tryz.func229 (x:=XN.h) (R0 d)
def ZL.h:Hn:=.q .o1 (.q .o1 (.q (.q .o3 (.k (.loop [(5,.I),(10,.I)] (.q .o1 (.q (.c .l .l) (.q (.k (.q .o3 (.q .o3 (.c .o3 .l)))) .o2)))))) .aL))
theorem ZL.o {a:Sl}{b:Int}{c:Hp}{d:aN}(e:Xb [bN,bN] (λe=>e 0 0 c) λf (g:Int) (h:Int) i=>If (h<((a.len:Nat):Int)) (Ix a.a a.len h 1 λj=>bM j i λk=>If (k==b) (bL (g+1) λl=>bL (h+1) λm=>f l m i) (bL (h+1) λn=>f g n i)) (d g i)):ZL.c a b c d:=Wa Tryz.func230 (x:=ZL.h) (R0 e)
def Xm.h:Hn:=.q .o1 (.q (.o 11) .l)
theorem Xm.o {a:R2}{b:Int}{c:Hp}{d:Sl->Hp->Prop}(e:bQ a λe=>aX e 0 c λf=>bL (b*16) λg=>bL (b+1) λh=>bL (h*16) λi=>eX f 1 g i (f.cap:Nat) λj=>d j c):Xm.c a b c d:=Wa Tryz.func231 (x:=Xm.h) (R0 e)
def XL.h:Hn:=.q .o1 (.q (.cV (.held true [] (.tk [0,1,3,4] (.all [(2,.all [(5,.take 6 (.take 7 (.done)))])])))) (.q (.q .o6 (.q .o2 .aJ)) (.q (.q .o6 (.q .o2 .aJ)) (.q .o4 .l))))
theorem XL.o {a b:Int}{c:Addr}{d:Hp}{e:aN}(f:dT d λf=>gW f .p c λ(g:R2)=>gW f .p c λ(h:R2)=>Xm.c g a d λi j=>And (f j) <| Xm.c h b j λk l=>And (f l) <| QF.c i l λm n=>QF.c k n λo p=>bL (m-o) λq=>If (q != 0) (e q p) (ZL.c i 1 p λr s=>ZL.c k 1 s λt u=>bL (r-t) λv=>If (v != 0) (e v u) (bL (b-a) λw=>e w u))):XL.c a b c d e:=Wa Tryz.func233 (x:=XL.h) (R0 f)
def QF.h:Hn:=.q .o1 (.q (.k (.q .o4 (.c .aM (.q .o4 .aK)))) .aM)
theorem QF.o {a:Sl}{b:Hp}{c:aN}(d:ZL.c a 1 b λd e=>If (d==0) (c 0 e) (ZL.c a 3 e λf g=>If (f>0) (c 1 g) (c 2 g))):QF.c a b c:=Wa Tryz.func234 (x:=QF.h) (R0 d)
def Xs.h:Hn:=.q .o2 (.q (.k (.q .o4 (.c .aM (.q (.cV (.seq [.op,.op,.op,.dB false 2 [.op,.op],.op,.dB false 7 (RI.ops 7),.op,.dB false 9 (RI.ops 9),.op])) .aK)))) (.q .fR (.q (.q .o3 .aK) (.q .o3 .aM))))
theorem Xs.o {a:R2}{b c d:Int}{e:Sl}{f:Hp}{g:aN}(h:aV #[.slice e.a e.len e.cap] 69 f λh i=>WW.c a i λj k=>If (!j) (g 5 k) (bZ (λl m=>bZ (λn o=>bZ (λp q=>If p (g 1 q) (bE a 0 q λs=>bL (b+c) λt=>eX s 1 b t (s.cap:Nat) λu=>Wz.c u ⟨269,#[],#[.pointer (some h)]⟩ q λv w=>If v (g 5 w) (Qu.c u d w λx=>g 0 x))) λy=>If n (y true o) (bE a 0 o λaa=>bL (((aa.len:Nat):Int)-b) λab=>y (decide (c>ab)) o)) λac=>If l (ac true m) (bE a 0 m λae=>ac (decide (b>((ae.len:Nat):Int))) m)) λaf=>If (b<0) (af true k) (af (decide (c<1)) k))):Xs.c a b c d e f g:=Wa Tryz.func235 (x:=Xs.h) (R0 h)
def X2.h:Hn:=.q .o1 (.q (.q .o3 .aK) (.q .o1 (.q (.q .o3 (.k (.loop [(5,.one .s),(13,.I)] (.q .o1 (.q (.c .l .l) (.q (.k (.q .o2 (.q .o4 (.q (.cV (.seq [.op,.op,.op,.op,.op,.dB true 4 (RI.ops 4)])) (.c .o5 .l))))) .o2)))))) .aL)))
theorem X2.o {a:R2}{b:Int}{c:Hp}{d:Sl->Hp->Prop}(e:WW.c a c λe f=>If (!e) (d ⟨none,0,0⟩ f) (XN.c a f λg h=>Xb [.s,bN] (λi=>i ⟨none,0,0⟩ 0 h) λj (k:Sl) (l:Int) m=>If (l<g) (Xm.c a l m λn o=>Ix n.a n.len 0 1 λp=>bM p o λq=>bZ (λr s=>If r (aV #[.I l] 3 s λt u=>App k 1 8 3 [.I 0] ⟨some t,1,1⟩ u λv w=>bL (l+1) λx=>j v x w) (bL (l+1) λy=>j k y s)) λz=>If (q != 0) (QF.c n o λaa ab=>z (aa==b) ab) (z false o)) (d k m))):X2.c a b c d:=Wa Tryz.func237 (x:=X2.h) (R0 e)
def XZ.h:Hn:=.q .o2 (.q (.k (.q .o4 (.c .aL (.q (.cV (.seq [.op,.op,.op,.dB false 4 (RI.ops 4),.op])) .aJ)))) (.q .o5 .l))
theorem XZ.o {a:R2}{b:Int}{c:Hp}{d:Sl->Int->Hp->Prop}(e:WW.c a c λe f=>If (!e) (d ⟨none,0,0⟩ 5 f) (bZ (λg h=>If g (d ⟨none,0,0⟩ 1 h) (Xm.c a b h λi j=>d i 0 j)) λk=>If (b<0) (k true f) (XN.c a f λl m=>k (decide (b≥l)) m))):XZ.c a b c d:=Wa Tryz.func238 (x:=XZ.h) (R0 e)
def Kb.h:Hn:=.q .o1 (.q (.cV (.seq [.op,.op,.op,.op,.op,.dB true 3 (RI.ops 3),.op])) .l)
theorem Kb.o {a:Sl}{b:Hp}{c:aO}(d:Ix a.a a.len 0 1 λd=>bM d b λe=>bZ (λf g=>c f g) λh=>If (e != 0) (ZL.c a 1 b λi j=>h (i==0) j) (h false b)):Kb.c a b c:=Wa Tryz.func239 (x:=Kb.h) (R0 d)
def Qu.h:Hn:=.q .o3 (.k (.loop [(7,.I)] (.q .o1 (.q (.c .l .l) (.q (.k (.q .o2 .o5)) .o2)))))
theorem Qu.o {a:Sl}{b:Int}{c:Hp}{d:aP}(e:Xb [bN] (λe=>e 0 c) λf (g:Int) h=>If (g<((a.len:Nat):Int)) (Ix a.a a.len g 1 λi=>cY i (.I b) h λj=>bL (g+1) λk=>f k j) (d h)):Qu.c a b c d:=Wa Tryz.func240 (x:=Qu.h) (R0 e)
def XO.h:Hn:=.q .o1 (.q .o6 .l)
theorem XO.o {a:R2}{b c:Int}{d:Hp}{e:aN}(f:aV #[.I 2,.I 3] 3 d λf g=>Xs.c a b c 1 ⟨some f,2,2⟩ g λh i=>e h i):XO.c a b c d e:=Wa Tryz.func254 (x:=XO.h) (R0 f)
def YK.h:Hn:=.q .o1 (.q .o5 .l)
theorem YK.o {a:Int}{b:Addr}{c:Hp}{d:aO}(e:kG b c λe=>Wo.c e a c λf g=>d (!f) g):YK.c a b c d:=Wa Tryz.func269 (x:=YK.h) (R0 e)
def Ye.h:Hn:=.q .o1 (.q .o8 (.q (.k (.q .o3 (.c .aL (.q .o5 .aK)))) (.q .o2 .aM)))
theorem Ye.o {a:R2}{b:Int}{c:Hp}{d:aN}(e:XZ.c a b c λe f g=>If (f != 0) (d f g) (Ix e.a e.len 0 1 λh=>bM h g λi=>If (i != 0) (d 5 g) (Qu.c e 3 g λj=>d 0 j))):Ye.c a b c d:=Wa Tryz.func281 (x:=Ye.h) (R0 e)
end Go.Proofs