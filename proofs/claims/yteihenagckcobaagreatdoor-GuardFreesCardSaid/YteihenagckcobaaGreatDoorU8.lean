/- Texts joined. -/
import Derived.Test.YteihenagckcobaaGreatDoorRows
import Derived.ChangeVars
import Derived.JoinedOf
import Derived.RowKit
import Derived.WalkKit
import Derived.ProofKit
import Derived.OpenShut
import Derived.ChangeOld
import Derived.Carry
import Derived.Test.YteihenagckcobaaGreatDoorU7
set_option linter.unusedVariables false
set_option linter.unusedSimpArgs false
namespace Go.Proofs
open Go.Vc
set_option maxRecDepth 100000
def WP.h:Hn:=.q .o2 (.q .o4 (.q (.q .o2 .aJ) (.q .o6 (.q (.q .o1 (.k (.loop [(9,.I)] (.q (.q .o4 (.c .l .l)) (.q (.k (.q .o6 (.j8 [] (.q .o1 (.c .o9 .l)) (.q (.cS (.tail 6 (RI.ops 6) [.op,.op])) .aK)))) .o3))))) (.q (.q .o1 (.k (.loop [(11,.I)] (.q (.q .o7 (.c .l .l)) (.q (.k (.q (.cS (.tail 11 (RI.ops 11) [.op,.op])) .aK)) .o3))))) (.q (.cS (.seq [.op,.op,.op,.op,.op,.op,.op,.op,.cX true 8 (RI.ops 8),.op,.cX true 1 [.op],.op])) .l))))))
def WP.v (a b c d e f:Int)(g:Sl)(h:Bool)(i:Hp)(j:aO):Prop:=aV #[.I a,.I b,.I c,.I d,.I e,.I f] 25 i λk l=>aQ k 0 l λm=>aQ k 1 l λn=>aQ k 2 l λo=>aQ k 3 l λp=>aQ k 4 l λq=>aQ k 5 l λr=>XI.c m n o p q r g 40 l λs t=>If s.isNone (Xd.c t λu v=>j u v) (bF s 0 t λx=>XY.c x t λy z=>X9 [bN] (λaa=>aa 0 z) λab (ac:Int) ad=>If (ac<((y.len:Nat):Int)) (Ix y.a y.len ac 4 λae=>aQ ae 0 ad λaf=>aQ ae 1 ad λag=>aQ ae 2 ad λah=>aQ ae 3 ad λai=>aV #[.I 0,.I 0,.I 0,.I 0] 52 ad λaj ak=>aR aj 0 (.I af) ak λal=>aR aj 1 (.I ag) al λam=>aR aj 2 (.I ah) am λan=>aR aj 3 (.I ai) an λao=>Jn [] (λap=>bF s 0 ap λar=>aQ aj 0 ap λau=>WH.c ar 0 au ap λav aw=>If (av != 0) (j false aw) (bL (ac+1) λax=>ab ax aw)) λay=>If h (bL (((y.len:Nat):Int)-1) λaz=>bL (az-ac) λa0=>Ix y.a y.len a0 4 λa1=>aQ a1 0 ao λa2=>aQ a1 1 ao λa3=>aQ a1 2 ao λa4=>aQ a1 3 ao λa5=>aR aj 0 (.I a2) ao λa6=>aR aj 1 (.I a3) a6 λa7=>aR aj 2 (.I a4) a7 λa8=>aR aj 3 (.I a5) a8 λa9=>ay a9) (ay ao)) (X9 [bN] (λba=>ba 0 ad) λbb (bc:Int) bd=>bE s 1 bd λbf=>If (bc<((bf.len:Nat):Int)) (bF s 0 bd λbh=>bE s 1 bd λbj=>
 Ix bj.a bj.len bc 1 λbk=>bM bk bd λbl=>WH.c bh 0 bl bd λbm bn=>If (bm != 9) (j false bn) (bL (bc+1) λbo=>bb bo bn)) (bF s 0 bd λbq=>XY.c bq bd λbr bs=>bW (λbt bu=>bW (λbv bw=>j bv bw) λbx=>If bt (Xd.c bu λbz b0=>bx bz b0) (bx false bu)) λb1=>If (((br.len:Nat):Int)==0) (bF s 0 bs λb3=>YD.c b3 bs λb4 b5=>Zm.c b4 b5 λb6 b7=>b1 (((b6.len:Nat):Int)==0) b7) (b1 false bs))))
theorem WP.o {a b c d e f g h i j}(k:WP.v a b c d e f g h i j):WP.c a b c d e f g h i j:=Wa Tryz.func8 (x:=WP.h) (R0 k)
end Go.Proofs
namespace Go.Ar
open Go Go.Vc Go.Proofs
open Go.Vc (bV dB cR)
variable {U σ0 v w w':Hp}{F P Q X T:Rg}{L:dK}{H H' H1:Hw}{held:List Pc}{s0 sp:Sp}{t n:Nat}{gb km fm m xb:Nat}{x y:Gu}{b:B5}{l:Sl}{ds:List fP}{ad:List Int}{la:List T3}{Qa Ql:Rg}{addrs ls:Sl}
theorem AL.ni (al:AL H x ad la)(hi:HI H held s0)(cf:kA H){k:Int×B5}(hk:k∈x.kn):lj H x 0 k.1 true=0:=by
 unfold lj;rw[zB (by rw[al.ready cf];decide),ZU al.g.nd (show(k.1,k.2)∈x.kn from hk)];simp only;rw[al.g.lost hi hk,al.g.broken hi hk];rfl
theorem AL.sF (al:AL H x ad la)(p:GP σ0 U L H held s0 P gb km fm x)(gc:Gc σ0){k:Int×B5}(hk:k∈x.kn){R:aN}
 (hR:∀w L' H1 held' s0' P',Ext (Mg P gb km fm) U w->GP σ0 w L' H1 held' s0' P' gb km fm (x.gone k.1)->(∀c,P' c->P c\/U.size<=c)->L'.p=L.p->AL H1 (x.gone k.1) ad (la.filter λq=>!(q.1==k.1))->R 0 w):WH.c (aW gb) 0 k.1 U R:=by
 have m:=al.ni p.hi p.cf hk;refine Uy (Uw p gc al.g.i 0 k.1 true (λw d=>absurd m d) λb w ts H1 held' s0' P' e z m y o u s r j=>?_);have out:lP H x ⟨21,0,0,0,0,0,0,ByteArray.empty⟩ k.1 H1 (x.gone k.1) 0 none true:=.pc (.inl rfl) z m y o u;have a:=(al.out p.hi p.cf out).1;rw[show ad++(none:Option Int).toList=ad by simp]at a;exact hR w {L with ts:=ts} H1 held' s0' P' s r j rfl a
theorem Nb (al:AL H x ad la){k:Int×B5}(hk:k∈x.kn){q:Int×B5}:q∈(x.gone k.1).kn↔q∈x.kn/\q≠k:=by
 show q∈cR x.kn k.1↔_;unfold cR;rw[zI];constructor
 ·rintro⟨h1,h2⟩;exact⟨h1,λh=>by subst h;simp at h2⟩
 ·rintro⟨h1,h2⟩;refine⟨h1,?_⟩;have:q.1≠k.1:=λh=>h2 (Vw al.g.nd h1 hk h);simpa using this
set_option maxRecDepth 16000 in
theorem Nc (gl:Gl U)(gc:Gc U)(b b1 b2 b3 b4 b5:Int)(hd:jl U l ds)(lN:Bool){R:aO}(hR:∀σ',bK U σ'->R true σ'):WP.c b b1 b2 b3 b4 b5 l lN U R:=by
 refine WP.o ?_;unfold WP.v;refine nw (cs:=[.int .i64 b,.int .i64 b1,.int .i64 b2,.int .i64 b3,.int .i64 b4,.int .i64 b5]) λv hz e hb=>hb.rI rfl (hb.rI rfl (hb.rI rfl (hb.rI rfl (hb.rI rfl (hb.rI rfl ?_)))));have ae:=gc.bO e;refine Ss (gl.bO e) ae b b1 b2 b3 b4 b5 (hd.bO e) 40 aB (λv1 e1=>?_) λv1 xb L H held s0 P V km fm x Qa Ql D Q ls la o al hno=>cB rfl ?_
 ·exact cD rfl (FE (gl.bO (e.trans e1)) (gc.bO (e.trans e1)) λv2 e2=>hR v2 ((e.trans e1).trans e2))
 have n0:=al.n0;have nl:=al.nl;refine aG (o.b.rP rfl (Fg o.p al.g.i O λs v3 es e3 Y N=>?_));have hsl:s.len=es.length:=by have:=N.1;rw[UY,zl]at this;omega
 have hel:=Y.p.length_eq;have z3:=e3.1;have X:=aI.cut N;have o3:=o.fr e3;obtain⟨r,G⟩:∃r,r=if lN then es.reverse else es:=⟨_,rfl⟩
 have hosl:r.length=es.length:=by rw[G];split<;>simp
 have M:r.Perm x.kn:=by rw[G];split;exact(List.reverse_perm _).trans Y.p;exact Y.p
 have hosn:r.Nodup:=by
  have h1:x.kn.Nodup:=(p8.1 al.g.nd).imp λh e=>h (by rw[e]);exact M.nodup_iff.2 h1
 have hxb1:=o.sO;have hfr:∀{u:Hp} {P':Rg},(∀c,P' c->P c\/v3.size<=c)->∀c,Mg P' V km fm c->Mg P V km fm c\/v3.size<=c:=λhP=>sy ⟨o3.p.b.lt,o3.p.m.lt,o3.p.f.lt⟩ hP;refine Z0 (a:=bN) (λ(z:Int) u=>∃(i:Nat) (L':dK) (H':Hw) (A:List Pc) (Z:Sp) (P':Rg) (x':Gu) (la':List T3),z=i/\i<=r.length/\Ext (λc=>Mg P V km fm c) v3 u/\GP v u L' H' A Z P' V km fm x'/\(∀c,P' c->P c\/v3.size<=c)/\L'.p=L.p/\AL H' x' Q la'/\∀q,q∈x'.kn↔q∈r.drop i) (λz _=>r.length-z.toNat)
  ⟨0,L,H,held,s0,P,x,la,rfl,O,Ext.refl _ _,o3.p,λc d=>.inl d,rfl,al,λq=>by rw[yu];exact(M.mem_iff).symm⟩ ?_
 rintro(z:Int) u ⟨i,L',H',A,Z,P',x',la',rfl,hi,eu,pu,hP,hLp,al',hmem⟩;have zu:=eu.1;have hbu:bY u xb (uE V D ls):=eu.bT o3.b o3.sO.2.1;have hru:bR s 4 (gO (es.map Go.Ar.b4)) u (λc=>v1.size<=c/\c<v3.size):=aI.bS (aI.mono X λc _ d=>d) eu λc _ d hm=>by have:=wQ o.p hm;have:=d.1;omega
 have hnM:∀c,v3.size<=c->c<u.size->True:=λ_ _ _=>trivial;refine cQ (λE=>?_) λhge=>?_
 ·have aa:i<r.length:=by omega
  have K:r[i]?=some (r[i]'aa):=cT _;generalize hk0:(r[i]'aa)=k at K;have B:r.drop i=k::r.drop (i+1):=by rw[←hk0];exact uc aa
  have W:k∈x'.kn:=(hmem k).2 (by rw[B];exact oT);have af:es[i]?=some (es[i]' O):=cT _;generalize (es[i]' O)=k1 at af;have hx4:(es.map Go.Ar.b4)[i]?=some (Go.Ar.b4 k1):=by rw[za,af];rfl
  refine Fh (bR.gQ hru) hx4 λbb oo d=>fR (d 0 _ rfl) (fR (d 1 _ rfl) (fR (d 2 _ rfl) (fR (d 3 _ rfl) ?_)));refine nw (cs:=[.int .i64 0,.int .i64 0,.int .i64 0,.int .i64 0]) λu1 hz1 e1 d1=>d1.s1 aA λu2 q2 d2=>d2.s1 aA λu3 q3 d3=>d3.s1 aA λu4 q4 d4=>d4.s1 aA λu5 q5 d5=>?_;have qo:Ext (· = u.size) u1 u5:=((q2.ext.trans q3.ext).trans q4.ext).trans q5.ext;have e5:bK u u5:=Ext.fresh e1 qo λc (d:c=u.size)=>by omega
  refine su (λw=>bK u w/\bY w u.size (l4 (Go.Ar.b4 k))) (λw ⟨F,C⟩=>?_) λJ hJ=>cO (λht=>?_) λht=>?_
  ·have pw:=pu.fr F;have hbw1:=F.bT hbu id;have hki:=al'.g.i k W;refine aG (hbw1.rP rfl (C.rI (x:=k.1) (by show some (Value.int .i64 k.2.1)=_;rw[hki.1]) (al'.sF pw ae W λw2 L2 H2 S s2 P2 e2 p2 hP2 hL2 al2=>cB aB ?_)));have zw:=F.1;have hM:∀c,Mg P' V km fm c->Mg P V km fm c\/v3.size<=c:=sy ⟨o3.p.b.lt,o3.p.m.lt,o3.p.f.lt⟩ hP;refine cP (m:=i+1) O O ⟨⟨i+1,L2,H2,S,s2,P2,_,_,rfl,O,Ext.dS (eu.ji F) e2 λc d=>hM c d,p2,λc d=>?_,hL2.trans hLp,al2,λq=>?_⟩,O⟩
   ·rcases hP2 c d with h|h
    ·exact hP c h
    ·exact .inr O
   ·rw[Nb al' W,hmem,B];have hnd:(k::r.drop (i+1)).Nodup:=by rw[←B];exact hosn.sublist (yX _ _)
    rw[zt]at hnd;constructor
    ·rintro⟨h1,h2⟩;exact(zW.1 h1).resolve_left h2
    ·intro h;exact⟨nA _ h,λhq=>hnd.1 (hq▸h)⟩
  ·have hosr:r=es.reverse:=by rw[G,zC ht]
   refine ar O O (ar O O ?_);have hidx:(es.map Go.Ar.b4)[es.length-1-i]?=some (Go.Ar.b4 k):=by
    rw[za];have:es[es.length-1-i]?=some k:=by
     rw[←K,hosr,List.getElem?_reverse O]
    rw[this];rfl
   have hru5:=aI.bO hru e5;rw[show((s.len:Nat):Int)-1-(i:Int)=((es.length-1-i:Nat):Int) by omega];refine Fh (bR.gQ hru5) hidx λbb oo d=>fR (d 0 _ rfl) (fR (d 1 _ rfl) (fR (d 2 _ rfl) (fR (d 3 _ rfl) ?_)));refine d5.s1 aA λu6 q6 d6=>d6.s1 aA λu7 q7 d7=>d7.s1 aA λu8 q8 d8=>d8.s1 aA λu9 q9 d9=>hJ u9 ⟨Ext.fresh e5 (((q6.ext.trans q7.ext).trans q8.ext).trans q9.ext) λc (d:c=u.size)=>O,d9⟩
  ·have hose:r=es:=by rw[G,zB (by rw[ht];decide)]
   have:k1=k:=by
    rw[hose,af]at K;exact Option.some.inj K
   subst this;exact hJ u5 ⟨e5,d5⟩
 ·have hin:i=r.length:=by omega
  subst hin;rw[List.drop_length]at hmem;have y:x'.kn=[]:=Br.2 λq hq=>by simpa using(hmem q).1 hq
  have hra:bR D 1 (Wo Q) u Qa:=aI.bS o3.ra eu λc _ d hm=>(o3.qa c d).2.2 hm;have hal:D.len=Q.length:=by have:=hra.1;simp[Wo]at this;omega
  refine Z0 (a:=bN) (λ(z:Int) w=>bK u w/\∃i:Nat,z=i/\i<=Q.length) (λz _=>Q.length-z.toNat) ⟨Ext.refl _ _,0,rfl,O⟩ ?_;rintro(z:Int) w ⟨F,j,rfl,hj⟩;have C:=F.bT hbu id;have pw:=pu.fr F;refine aG (C.rS rfl (cQ (λE=>?_) λhge=>?_))
  ·have K:Q[j]?=some (Q[j]'(by simp only at E;omega)):=cT _;generalize (Q[j]'(by simp only at E;omega))=a at K;have hraw:=aI.bO hra F;have h9:lj H' x' 0 a true=9:=by
    unfold lj;rw[zB (by rw[al'.ready pu.cf];decide),y];have:=al'.dq a (zG K);rw[y]at this;rcases this with h|h
    ·cases h
    ·show(if(bV x'.fr a).getD false=true then(9:Int)else 8)=9
     rw[h];rfl
   refine aG (C.rP rfl (aG (C.rS rfl ((bR.gQ hraw).mf K (Uy (Uw pw ae al'.g.i 0 a true (λw2 _ e2=>?_) λb w ts H1 A Z P' e hm h=>by rw[h9]at h;cases h))))));rw[h9];exact cB aB (cP (m:=j+1) O O ⟨⟨F.trans e2,j+1,rfl,by simp only at E;omega⟩,by simp only at E;omega⟩)
  ·refine aG (C.rP rfl (Fg pw al'.g.i (by rw[y];simp) λs4 w4 es4 e4 hes4 ab=>?_));have h4:es4=[]:=by have:=hes4.p;rw[y]at this;exact List.perm_nil.1 this
   have hl4:s4.len=0:=by have:=ab.1;rw[h4]at this;simp[gO]at this;omega
   rw[hl4];refine bW.intro (cD aB (aG ((e4.bT C id).rP rfl (PR (pw.fr e4) (MA (pw.fr e4).h pu.hi λs5 w5 bs e5 hl5 ac=>?_)))));have hlv:H'.live=[]:=by
    have:=al'.g.live;rw[y]at this;exact vj.1 this
   have hl5':s5.len=0:=by have:=ac.1;rw[UY,hl5.len,hlv]at this;simp at this;omega
   rw[hl5'];have E5:=e.trans ((((pu.e).trans F).trans e4).trans e5);exact bW.intro (cD aB (FE (gl.bO E5) (gc.bO E5) λq eq=>hR q (E5.trans eq)))
end Go.Ar
namespace Go.Ar
open Go Go.Vc Go.Proofs Go.ChangeShapes Go.WideShapes Go.RowKit Go.Deep
theorem H7 {H:Type}{enc:TypeId×Value->H}{P:Program}{w:World}{base:Nat}{sp:Nat->Bool}{held:Bool}{fuel:Nat}{t:TypeId}{c:Value}{y:DataW H×List MemPlace}
 (ht:P.underlying t=some .bool) (h:DataW.trod enc P w base sp held fuel t [c]=some y):∃n,c=.bool n/\y=(.lit (.bool n),[]):=by
 cases fuel with
 | zero=>simp[DataW.trod]at h
 | succ fuel=>
  cases c<;>simp[DataW.trod,ht]at h
  rename_i n;exact⟨n,rfl,by simpa using h.symm⟩
theorem GM {P:Program}{w:World}{t:TypeId}{f0 f1:Field}{cs:Array Value}{fuel:Nat}{p:List MemPlace}{x y:Bool}(ht:P.underlying t=some (.struct #[f0,f1]))(hone:oneCellFields P #[f0,f1]=true)(hC:P.cellsOf t=2)
 (h0:P.underlying f0.type=some .bool) (h1:P.underlying f1.type=some .bool) (h:DataW.trod (λ_=>()) P w 0 (λ_=>true) false fuel t cs.toList=some (.agg [.lit (.bool x),.lit (.bool y)],p)):cs = #[.bool x,.bool y]:=by
 obtain⟨z,n,A,i,b,d,a⟩:=DataW.trod_struct ht h;obtain⟨l⟩:=cs;have e:l.length=2:=by rw[←hC];simpa using b
 match l,e with
 | [c0,c1],_=>
  have g:=a 0 f0 rfl;have j:=a 1 f1 rfl;obtain⟨s,u⟩:=hone_of hone 0 f0 rfl;obtain⟨o1,m⟩:=hone_of hone 1 f1 rfl;rw[s,u]at g;rw[o1,m]at j
  match z,d with
  | [y0,y1],_=>
   obtain⟨C,rfl,r⟩:=H7 h0 (c:=c0) (y:=y0) (by simpa using g);obtain⟨B,rfl,e1⟩:=H7 h1 (c:=c1) (y:=y1) (by simpa using j);subst r;subst e1;simp at i;obtain⟨⟨rfl,rfl⟩,_⟩:=i;rfl
theorem Hs {w:World}{a:Addr}{v:Value}(h:w.cell? a=some v):cell w.heap a=some v:=h
section
variable {H:Type}{enc:TypeId×Value->H}{P:Program}{w:World}
theorem IC {x:Int}(h:(Lit.int .i64 x).wf=true):jT x:=by
 unfold jT;simp[Lit.wf,IntKind.min,IntKind.max,IntKind.bits,IntKind.signed]at h;omega
theorem NW {t:TypeId}{f0 f1 f2 f3 f4 f5 f6 f7:Field}{fuel:Nat}{cs:List Value}{y:DataW H×List MemPlace}
 (ht:P.underlying t=some (.struct #[f0,f1,f2,f3,f4,f5,f6,f7])) (hone:oneCellFields P #[f0,f1,f2,f3,f4,f5,f6,f7]=true) (hC:P.cellsOf t=8)
 (h0:P.underlying f0.type=some (.int .i64)) (h1:P.underlying f1.type=some (.int .i64)) (h2:P.underlying f2.type=some (.int .i64)) (h3:P.underlying f3.type=some (.int .i64)) (h4:P.underlying f4.type=some (.int .i64)) (h5:P.underlying f5.type=some (.int .i64)) (h6:P.underlying f6.type=some (.int .i64)) (h7:P.underlying f7.type=some .string)
 (h:DataW.trod enc P w 0 (λ_=>true) true fuel t cs=some y):∃d:fP,cs=qO d/\lS d:=by
 obtain⟨A,n,U,V,a,g,i⟩:=DataW.trod_struct ht h;have r:cs.length=8:=by rw[←hC];exact a
 match cs,r with
 | [c0,c1,c2,c3,c4,c5,c6,c7],_=>
  have one:∀(j:Nat) (f:Field) (c:Value),(#[f0,f1,f2,f3,f4,f5,f6,f7]:Array Field)[j]?=some f->[c0,c1,c2,c3,c4,c5,c6,c7][j]?=some c->∃z,DataW.trod enc P w 0 (λ_=>true) true n f.type [c]=some z:=by
   intro j f c hj hc;obtain⟨F,Q⟩:=hone_of hone j f hj;have h3:=i j f hj;rw[F,Q]at h3;have b:=(cW.1 hc).1;have e1:([c0,c1,c2,c3,c4,c5,c6,c7].drop j).take 1=[c]:=by
    rw[uc b,uK,xX,(cW.1 hc).2]
   rw[e1]at h3;have m:A[j]?=some (A[j]'(by rw[g];simp at b ⊢;omega)):=cT _;rw[m]at h3;exact⟨_,h3⟩
  have int:∀(j:Nat) (f:Field) (c:Value),(#[f0,f1,f2,f3,f4,f5,f6,f7]:Array Field)[j]?=some f->[c0,c1,c2,c3,c4,c5,c6,c7][j]?=some c->P.underlying f.type=some (.int .i64)->∃x:Int,c=.int .i64 x/\jT x:=by
   intro j f c hj hc hu;obtain⟨z,p⟩:=one j f c hj hc;obtain⟨x,e,_,L⟩:=DataW.trod_int hu p;simp only[List.cons.injEq,and_true]at e;exact⟨x,e,IC L⟩
  obtain⟨D,rfl,_⟩:=int 0 f0 c0 rfl rfl h0;obtain⟨G,rfl,_⟩:=int 1 f1 c1 rfl rfl h1;obtain⟨N,rfl,K⟩:=int 2 f2 c2 rfl rfl h2;obtain⟨M,rfl,C⟩:=int 3 f3 c3 rfl rfl h3;obtain⟨R,rfl,_⟩:=int 4 f4 c4 rfl rfl h4;obtain⟨E,rfl,S⟩:=int 5 f5 c5 rfl rfl h5;obtain⟨B,rfl,J⟩:=int 6 f6 c6 rfl rfl h6;obtain⟨z,p⟩:=one 7 f7 c7 rfl rfl;obtain⟨s,u,_⟩:=DataW.trod_string h7 p;simp only[List.cons.injEq,and_true]at u;subst u;exact⟨⟨D,G,N,M,R,E,B,s⟩,rfl,K,C,S,J⟩
theorem PC {t e:TypeId}{f0 f1 f2 f3 f4 f5 f6 f7:Field}{a:Option Addr}{len cap:Nat}{d:DataW H}{ps:List MemPlace}
 (htl:P.underlying t=some (.slice e)) (ht:P.underlying e=some (.struct #[f0,f1,f2,f3,f4,f5,f6,f7])) (hone:oneCellFields P #[f0,f1,f2,f3,f4,f5,f6,f7]=true) (hC:P.cellsOf e=8)
 (h0:P.underlying f0.type=some (.int .i64)) (h1:P.underlying f1.type=some (.int .i64)) (h2:P.underlying f2.type=some (.int .i64)) (h3:P.underlying f3.type=some (.int .i64)) (h4:P.underlying f4.type=some (.int .i64)) (h5:P.underlying f5.type=some (.int .i64)) (h6:P.underlying f6.type=some (.int .i64)) (h7:P.underlying f7.type=some .string)
 (h:DataW.Trod enc P w 0 (λ_=>true) true t (.slice a len cap) d ps):∃ds,jl w.heap ⟨a,len,cap⟩ ds:=by
 obtain⟨N,V⟩:=h;rcases open_slice htl V with⟨r,_⟩|⟨ad,len',cap',m,n,D,Pl,r,_,hl,hm,hmm,z,y⟩
 ·simp[Value.cells]at r;obtain⟨rfl,rfl,rfl⟩:=r;exact⟨[],rfl,λi x z=>by simp at z,by simp,by simp⟩
 ·simp[Value.cells]at r;obtain⟨rfl,rfl,rfl⟩:=r;have R:m=cap:=by simpa using hmm
  have key:∀i,i<len->∃u:fP,(∀j v,(qO u)[j]?=some v->cell w.heap ((ad.add (i*8)).add j)=some v)/\lS u:=by
   intro i p;obtain⟨U,E,J⟩:=y i O;rw[hC]at E;obtain⟨x,r,K⟩:=NW ht hone hC h0 h1 h2 h3 h4 h5 h6 h7 J;obtain⟨_,S,L⟩:=World.cells?_some E;refine⟨x,λj v F=>?_,K⟩;have W:=(cW.1 F).1;have:=L j (by simpa[qO]using W);rw[r]at this;rw[F]at this;exact this
  let g:Nat->fP:=λi=>if y:i<len then(key i y).choose else⟨0,0,0,0,0,0,0,ByteArray.empty⟩
  have Q:∀i,(y:i<len)->g i=(key i y).choose:=λi y=>by simp only[g,y,dif_pos]
  refine⟨(List.range len).map g,by simp,λi x z=>?_,λx z=>?_,?_⟩
  ·have p:i<len:=by
    have:=(cW.1 z).1;simpa using this
   have B:g i=x:=by simpa[p]using z
   rw[Q i p]at B;have C:=(key i p).choose_spec;rw[B]at C;obtain⟨E,_⟩:=C;have G:=(key 0 O).choose_spec.1;have M:=G 0 _ rfl;have A:=CX M;simp only[tU,Addr.add_zero']at A;obtain⟨b,o,s⟩:=ad;have C:s=none:=A.2;subst C;refine⟨b,o,rfl,A.1,λj v F=>?_⟩;have:=E j v F;rw[add_lit,add_lit]at this;exact this
  ·obtain⟨i,y,rfl⟩:=zE.1 z;have p:=zg.1 y;rw[Q i p];exact(key i p).choose_spec.2
  ·have:maxLen=9223372036854775807:=rfl;simp;omega
theorem M6 {b0:Nat}{t:TypeId}{f0 f1 g0 g1 g2 g3 g4:Field}{v:Value}{d:DataW H}{ps:List MemPlace}
 (ht:P.underlying t=some (.struct #[f0,f1])) (hC:P.cellsOf t=6) (ho:f0.offset=0/\P.cellsOf f0.type=1/\f1.offset=1/\P.cellsOf f1.type=5)
 (h0:P.underlying f0.type=some (.int .i64)) (h1:P.underlying f1.type=some (.struct #[g0,g1,g2,g3,g4])) (hone:oneCellFields P #[g0,g1,g2,g3,g4]=true)
 (k0:P.underlying g0.type=some (.int .i64)) (k1:P.underlying g1.type=some (.int .i64)) (k2:P.underlying g2.type=some (.int .i64)) (k3:P.underlying g3.type=some (.int .i64)) (k4:P.underlying g4.type=some (.int .i64))
 (hval:Value.okWide P w .any b0 t v) (h:DataW.Trod enc P w 0 (λ_=>true) true t v d ps):∃(x0 x1 x2 x3 x4 x5:Int),v=.agg #[.int .i64 x0,.int .i64 x1,.int .i64 x2,.int .i64 x3,.int .i64 x4,.int .i64 x5]:=by
 unfold Value.okWide at hval;rw[ht]at hval;obtain⟨L,rfl,D,_⟩:=hval;obtain⟨a,z⟩:=h;obtain⟨l⟩:=L;have y:l.length=6:=by rw[←hC];simpa using D
 obtain⟨B,u,r,i⟩:=ho
 match l,y with
 | [c0,c1,c2,c3,c4,c5],_=>
  have z:DataW.trod enc P w 0 (λ_=>true) true a t [c0,c1,c2,c3,c4,c5]=some (d,ps):=z;obtain⟨y0,y1,n,_,_,K,F⟩:=trod_struct2 ht z;rw[B,u]at K;rw[r,i]at F;have C:DataW.trod enc P w 0 (λ_=>true) true n f0.type [c0]=some y0:=K;have E:DataW.trod enc P w 0 (λ_=>true) true n f1.type [c1,c2,c3,c4,c5]=some y1:=F;obtain⟨x0,e,_,_⟩:=DataW.trod_int h0 C;simp only[List.cons.injEq,and_true]at e;subst e;obtain⟨J,n,N,Q,G,A,m⟩:=DataW.trod_struct h1 E;have int:∀(j:Nat) (f:Field) (c:Value),(#[g0,g1,g2,g3,g4]:Array Field)[j]?=some f->[c1,c2,c3,c4,c5][j]?=some c->P.underlying f.type=some (.int .i64)->∃x:Int,c=.int .i64 x:=by
   intro j f c hj hc hu;obtain⟨ho,M⟩:=hone_of hone j f hj;have g:=m j f hj;rw[ho,M]at g;have b:=(cW.1 hc).1;have e1:([c1,c2,c3,c4,c5].drop j).take 1=[c]:=by
    rw[uc b,uK,xX,(cW.1 hc).2]
   rw[e1]at g;have p:J[j]?=some (J[j]'(by rw[A];simp at b ⊢;omega)):=cT _;rw[p]at g;obtain⟨x,s,_,_⟩:=DataW.trod_int hu g;exact⟨x,by simpa using s⟩
  obtain⟨x1,rfl⟩:=int 0 g0 c1 rfl rfl k0;obtain⟨x2,rfl⟩:=int 1 g1 c2 rfl rfl k1;obtain⟨x3,rfl⟩:=int 2 g2 c3 rfl rfl k2;obtain⟨x4,rfl⟩:=int 3 g3 c4 rfl rfl k3;obtain⟨x5,rfl⟩:=int 4 g4 c5 rfl rfl k4;exact⟨x0,x1,x2,x3,x4,x5,rfl⟩
end
end Go.Ar