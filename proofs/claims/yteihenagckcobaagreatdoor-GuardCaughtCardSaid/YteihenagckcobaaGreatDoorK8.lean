/- Texts joined. -/
import Derived.Test.YteihenagckcobaaGreatDoorRows
import Derived.ChangeVars
import Derived.JoinedOf
import Derived.RowKit
import Derived.WalkKit
import Derived.ProofKit
import Derived.OpenShut
import Derived.ChangeOld
import Derived.Carry
import Derived.Test.YteihenagckcobaaGreatDoorK7
set_option linter.unusedVariables false
set_option linter.unusedSimpArgs false
namespace Go.Ar
open Go Go.Vc Go.Proofs Go.RowKit Go.Maps Go.Sort Go.Shelf
open Go.Vc (bU dA cR)
open Go.Bu (lN UD Vd UJ Kw wN)
variable {U σ0 v w w':Hp}{F P Q X T:Rg}{L:dI}{H H' H1:Hw}{held:List Pc}{s0 sp:Sp}{t n:Nat}{gb km fm m:Nat}{x y:Gu}{b:B5}
def Gf:Nat:=Tryz.hO.f 10
def B9:Nat:=Tryz.hO.t 23
theorem MQ (m:Option Nat){R:Fv->Hp->Prop}(hR:R ⟨Gf,#[],#[.pointer (some ⟨U.size,0,none⟩)]⟩ (U.push (.cells #[.map m] B9 (0,0)))) :
 Zl.c m U R:=by
 rintro w rfl;refine(callsIn_wide.1 (AnyZI.keys_in Tryz.kW Fence.wide 5 trivial rfl m w)).mono ?_;rintro e a ⟨rfl,rfl⟩;exact⟨⟨rfl,rfl,rfl,qY (by show _<(w.heap.push _).size;simp)⟩,[.func (.func Gf) #[] #[.pointer (some ⟨w.heap.size,0,none⟩)]],rfl,⟨Gf,#[],#[.pointer (some ⟨w.heap.size,0,none⟩)]⟩,rfl,hR⟩
theorem Ll {w:World}{c m:Nat}{B:List (Int×B5)}(hc:cell w.heap ⟨c,0,none⟩=some (.map (some m)))(hm:dH w.heap m .i64 (.ag 5) B)(hb:∀x∈B,Go.Bu.jO x.1)(hs:B.length<=1000000)(n:Nat)(hn:1<=n) :
 SeqGives Fence.wide n Tryz.prog Gf #[.pointer (some ⟨c,0,none⟩)] encZ (λss=>ss.Perm (B.map (·.1))) B.length w:=by
 obtain⟨D,d,g,a⟩:=Kw (P:=Tryz.prog) Tryz.kW.t26 hm hb hs;have b:c<w.heap.size:=by
  unfold cell at hc;split at hc
  ·rename_i h;exact(zz.1 h).1
  ·cases hc
 have:=AnyZI.keys_gives (ρ:=Tryz.hO) {Tryz.kW with} Fence.wide n trivial rfl hn c m B.length D w b hc d;intro l J W hW hJ hY h0;rw[a]at this;refine(this l J W hW hJ hY h0).mono ?_;rintro e W' ⟨j,ss,p,i⟩;exact⟨j,ss,p.trans g,i⟩
theorem S9 {c m:Nat}{B:List (Int×B5)}(hc:cell U ⟨c,0,none⟩=some (.map (some m)))(hm:dH U m .i64 (.ag 5) B)(hb:∀x∈B,Go.Bu.jO x.1)(hs:B.length<=1000000){R:Sl->Hp->Prop}
 (hR:∀(s:Sl) (σ':Hp) (ss:List Int),aG U σ'->ss.Perm (B.map (·.1))->ss.Pairwise (· <= ·)->lN U.size σ' s (ss.map (Value.int .i64))->R s σ') :
 QM.c ⟨Gf,#[],#[.pointer (some ⟨c,0,none⟩)]⟩ U R:=by
 rintro w rfl;have i:=Ll hc hm hb hs 2 O;have p:B.length<=maxLen:=by unfold maxLen;omega
 have z:=AnyZI.sorted_in Tryz.m8 Fence.wide 5 trivial trivial trivial trivial rfl O (wN _) (Tryz.kR.f5.enters rfl) Gf #[.pointer (some ⟨c,0,none⟩)] trivial (Tryz.kW.f10.enters rfl) _ _ p O _ i;refine(callsIn_wide.1 z).mono ?_;rintro e A ⟨v,ss,rfl,u,d,r,g⟩;obtain⟨s,rfl,j⟩:=UD d;refine⟨UJ g,[.slice s.a s.len s.cap],rfl,s,rfl,?_⟩;refine hR s _ (ss.mergeSort λx y=>decide (x<=y)) (Vd g) ((B1 _ _).trans u) ?_ j;have:=List.pairwise_mergeSort (le:=λx y:Int=>decide (x<=y)) (λa b c D C=>by simp at *;omega) (λa b=>by simp;omega) ss;exact this.imp (λh=>by simpa using h)
structure oJ (x:Gu) (es:List (Int×B5)):Prop where
 p:es.Perm x.kn
 s:es.Pairwise λa b=>a.1<b.1
def b4 (e:Int×B5):Bk:=(e.2.1,e.2.2.1,e.2.2.2.1,e.2.2.2.2.1)
theorem FG (p:GP σ0 U L H held s0 P gb km fm x)(xi:∀e∈x.kn,e.1=e.2.1/\gL e.2)(hl:x.kn.length<=1000000){R:Sl->Hp->Prop}(hR:∀s σ' es,aG U σ'->oJ x es->bR s 4 (gH (es.map b4)) σ' (λb=>U.size<=b)->R s σ'):X4.c (aW gb) U R:=by
 refine X4.o ?_;unfold X4.v;have M:∀e∈x.kn,Go.Bu.jO e.1:=λe g=>by
  have h:=xi e g;have E:=h.1;have D:=h.2.z;have h3:=h.2.base;have h4:=h.2.t;have h5:=h.2.m;have h6:=h.2.s;have V:=ZK (n:=e.2.2.1) O;unfold Go.Bu.jO;omega
 have r:=p.m.nodup;refine Vv p (cB rfl (bK (p.b.rM rfl (MQ _ ?_))));have e1:aG U (U.push (.cells #[.map (some km)] B9 (0,0))):=Ext.push _ _ _;have p1:=p.fr e1;refine S9 (by unfold cell;simp) p1.m M hl λs u d e2 Q y hs=>?_;have Y:=e1.trans e2;have J:=cT.py hs;have K:d.Nodup:=Q.nodup_iff.2 r;have W:d.length=x.kn.length:=by rw[Q.length_eq];simp
 have hsl:s.len=d.length:=by have:=J.1;simp at this;omega
 let f:Int->Int×B5:=λk=>(k,(bU x.kn k).getD (0,0,0,0,0))
 have N:∀e∈x.kn,f e.1=e:=λe g=>by
  show(e.1,(bU x.kn e.1).getD (0,0,0,0,0))=e;rw[ZF r (show(e.1,e.2)∈x.kn from g)];rfl
 have hz1:U.size<u.size:=by
  have E:=e2.1;have D:(U.push (.cells #[.map (some km)] B9 (0,0))).size=U.size+1:=by simp
  omega
 refine VO (a:=.s) (bb:=bN) (λ(out:Sl) (z:Int) w=>∃i:Nat,z=i/\i<=d.length/\aG u w/\bR out 4 (gH (((d.take i).map f).map b4)) w (λb=>u.size<=b)) (λ_ z _=>d.length-z.toNat) ⟨0,rfl,O,Ext.refl _ _,⟨by simp[gH],.inl ⟨rfl,rfl⟩⟩⟩ ?_;rintro(out:Sl) (z:Int) w ⟨i,rfl,hil,ew,hr⟩;have V:=p1.fr (e2.trans ew);refine cP (λhlt=>?_) λhge=>?_
 ·have hx:d[i]?=some (d[i]' O):=cU _;have hol:out.len=i:=by have:=hr.1;rw[UM]at this;simp at this;omega
  have G:(d[i]' O)∈x.kn.map (·.1):=Q.mem_iff.1 (zp _);obtain⟨e,g,A⟩:=zE.1 G;have aa:f (d[i]' O)=e:=by rw[←A];exact N e g
  refine(aH.bO (aH.cut J) ew).mI hx (bK (V.b.rM rfl ⟨x.kn,V.m,?_⟩));have B:bU x.kn (d[i]' O)=some e.2:=by rw[←A];exact ZF r (show(e.1,e.2)∈x.kn from g)
  rw[B];refine hr.push (F:=λb=>u.size<=b) (vs:=jJ (b4 e)) (λb C=>by have:=ew.1;omega) rfl rfl (by simp[jJ,dO]) O O λs' w' ab Z S=>?_;have e3:aG u w':=Ext.fresh ew Z λb C=>C;refine cS (m:=i+1) O O ⟨⟨i+1,rfl,O,e3,?_⟩,O⟩;have:gH (((d.take (i+1)).map f).map b4)=gH (((d.take i).map f).map b4)++jJ (b4 e):=by
   unfold gH;rw[kN,hx,zy,zy,yz];simp only[xS,zR,pX,nJ,List.flatMap_nil,kI,aa]
  rw[this];exact S
 ·have X:i=d.length:=by omega
  subst X;rw[l0]at hr;have j:(d.map f).Perm x.kn:=by
   have E:=Q.map f;rw[lx]at E;have D:x.kn.map (f∘λe=>e.1)=x.kn:=by
    conv=>rhs;rw[←uM x.kn]
    exact kh λe g=>N e g
   rwa [D]at E
  refine hR out w (d.map f) (Y.trans ew) ⟨j,?_⟩ (aI.mono hr λb _ C=>by
   show U.size<=b;have C:u.size<=b:=C;omega)
  rw[pf];exact(y.and K).imp λ{a b} ⟨E,D⟩=>by
   have h3:a≠b:=D;show a<b;omega
end Go.Ar
namespace Go.Proofs
open Go.Vc
set_option maxRecDepth 100000
end Go.Proofs
namespace Go.Ar
open Go Go.Vc Go.Proofs
open Go.Vc (bU dA cR)
variable {U σ0 v w w':Hp}{F P Q X T:Rg}{L:dI}{H H' H1:Hw}{held:List Pc}{s0 sp:Sp}{t n:Nat}{gb km fm m xb:Nat}{x y:Gu}{b:B5}{l:Sl}{ds:List eY}{ad:List Int}{la:List T3}{Qa Ql:Rg}{addrs ls:Sl}
theorem NC (z:Int)(h0:0<=z)(h1:z<=1000000){R:aN}(hR:R (YI z) U):YR.c z U R:=by
 refine YR.o ?_;unfold YR.v;refine ar O O (ar O O (nz aB (ar (by rw[XX O];omega) (by rw[XX O];omega) ?_)));rw[XX O];refine ar O O ?_;have:(z+8-1)/8*8=YI z:=by unfold YI;omega
 rw[this];exact hR
theorem Av {a b c d:Int}{K:Addr->Hp->Prop}(hK:∀w',aG U w'->bY w' U.size (jJ (a,b,c,d))->K ⟨U.size,0,none⟩ w'):Nw (.cells #[.int .i64 0,.int .i64 0,.int .i64 0,.int .i64 0] 52 (0,0)) U λn v20=>dU (n.add 0) (.int .i64 a) v20 λv21=>dU (n.add 1) (.int .i64 b) v21 λv22=>dU (n.add 2) (.int .i64 c) v22 λv23=>dU (n.add 3) (.int .i64 d) v23 λv24=>K n v24:=
 nw (cs:=[.int .i64 0,.int .i64 0,.int .i64 0,.int .i64 0]) λv20 y g w=>w.s1 aA λv21 e j=>j.s1 aA λv22 x r=>r.s1 aA λv23 s m=>m.s1 aA λv24 u p=>
  hK v24 (Ext.fresh g (((e.ext.trans x.ext).trans s.ext).trans u.ext) λi (z:i=U.size)=>O) p
end Go.Ar
namespace Go.Proofs
open Go.Vc
set_option maxRecDepth 100000
end Go.Proofs
namespace Go.Ar
open Go Go.Vc Go.Proofs
open Go.Vc (bU dA cR)
variable {a e:Int}{U σ0 v w w':Hp}{F P Q X T:Rg}{L:dI}{H H' H1:Hw}{held:List Pc}{s0 sp:Sp}{t n:Nat}{gb km fm m xb:Nat}{x x' y:Gu}{b:B5}{l more:Sl}{ds dm:List eY}{ad:List Int}{la:List T3}{Qa Ql:Rg}{addrs ls:Sl}{d:eY}{add:Option Int}{del:Bool}
theorem dN.out (g:dN H x)(hi:HI H held s0)(cf:j0 H)(o:kZ H x d a H' x' e add del):dN H' x'/\(0<=x.no->0<=x'.no/\x'.no<=x.no+1)/\∀k∈x.kn,¬(k.1<=a/\a<k.1+YI k.2.2.1)->Kept H x H' x' k:=by
 cases o with
 | same e C=>exact⟨g,λh=>O,λk j _=>⟨j,λ_ _=>rfl⟩⟩
 | full j hgk p w op hl=>
  obtain⟨r,u⟩:=g.same hi op hl;exact⟨r,λh=>O,λk j _=>u k j⟩
 | fM j gr w op=>
  rename_i b H1;obtain⟨A,s1,z⟩:=op.hi;obtain⟨r,G,F,_,_⟩:=g.fM hi gr op z;exact⟨r,λh=>by show 0<=x.no+1/\x.no+1<=_;omega,λk j _=>F k j⟩
 | mV j hm hf w op fe=>
  rename_i b e;have y:Qw H d.th=0:=by
   by_cases h:Qw H d.th=0
   ·exact h
   ·unfold kD at hf;rw[zC h]at hf;exact absurd hf h
  obtain⟨r,u⟩:=g.free hi hm w op fe y cf.2.1;refine⟨r,λh=>by show 0<=x.no/\x.no<=_;omega,λk j p=>u k j λh=>p ?_⟩;have m:=g.i k j;have J:=m.2.s;have w:=ZK (n:=k.2.2.1) O;omega
 | wrote j wd=>
  rcases wd with⟨h,_⟩|⟨k,j,hin,h8,_⟩
  ·cases h
  ·have m:=g.i k j;obtain⟨B,D⟩:=hin;have E:a∈Qv k.2:=dN.jm m.2 B D h8;obtain⟨r,u,_⟩:=g.write hi j E (v:=d.va);refine⟨r,λh=>O,λe C p=>u e C λh=>p ?_⟩;subst h;exact⟨by rw[m.1];exact B,by rw[m.1];exact D⟩
theorem dN.wd (g:dN H x)(hi:HI H held s0){k:Int×B5}(hk:k∈x.kn){z:Int}(hz:z∈Qv k.2)(h:rz H x z e):e=0:=by
 have a:=g.i k hk;have b:=GY a.2 hz;rcases h with⟨_,h⟩|⟨q,hq,hin,_,he⟩
 ·exfalso;rcases h with h|h
  ·refine h k hk ⟨O,?_⟩;show z<k.2.1+YI k.2.2.1;omega
  ·omega
 ·rw[he,g.lost hi hq];rfl
end Go.Ar
namespace Go.Ar
open Go Go.Vc Go.Proofs
open Go.Vc (bU dA cR)
variable {U σ0 v w w':Hp}{F G P Q X T:Rg}{L:dI}{H H' H1:Hw}{held:List Pc}{s0 sp:Sp}{t n:Nat}{gb km fm m xb:Nat}{x x' y:Gu}{b:B5}
theorem RW {es es':List (Int×B5)}(h:oJ x es)(h':oJ x es'):es=es':=
 List.Perm.eq_of_pairwise (le:=λa b:Int×B5=>a.1<b.1) (λa b _ _ e d=>O) h.s h'.s (h.p.trans h'.p.symm)
theorem LW {live:List (Int×Bk)}{bs bs':List Bk}(h:m9 live bs)(h':m9 live bs'):bs=bs':=by
 have g:bs.Nodup:=h.mM.imp λ{a b} h e=>by rw[e]at h;omega
 have d:bs'.Nodup:=h'.mM.imp λ{a b} h e=>by rw[e]at h;omega
 exact List.Perm.eq_of_pairwise (le:=λa b:Bk=>a.1<b.1) (λa b _ _ j i=>O) h.mM h'.mM ((xX g d).2 λa=>(h.mem a).trans (h'.mem a).symm)
theorem Br {s:Sl}{xs:List Int}(hr:bR s 1 (Wj xs) U Q)(hl:xs.length<=1000000000)(a:Int){e t:Nat}{K:Sl->Hp->Prop}(hK:∀s' w,Ext Q U w->bR s' 1 (Wj (xs++[a])) w (λb=>Q b\/U.size<=b/\b<w.size)->K s' w) :
 Nw (.cells #[.int .i64 a] t (0,0)) U λn v=>App s 1 8 e [.int .i64 0] ⟨some n,1,1⟩ v K:=by
 have r:s.len=xs.length:=by have:=hr.1;simp[Wj]at this;omega
 refine nw (cs:=[.int .i64 a]) λv A e1 i=>?_;have d:=aI.bO hr e1;refine d.app (ys:=[.int .i64 a]) rfl rfl ?_ (by simp[dO]) ?_ ?_ (show 0<1 by decide) λs' h' z y g=>?_
 ·intro j u hu;rw[add_lit,zH,i.cell];exact hu
 ·simp only;omega
 ·simp only;omega
 ·have m:Ext Q U h':=e1.to.trans y;refine hK s' h' m ?_;have:Wj (xs++[a])=Wj xs++[.int .i64 a]:=by simp[Wj]
  rw[this];refine aI.mono (aI.cut g) λb x p=>?_;rcases p.1 with h1|h1
  ·exact .inl h1
  ·exact .inr ⟨O,x⟩
def nO (sp:Sp)(a:Int)(n:Nat):List Int:=(List.range n).map λ(i:Nat)=>QJ sp (a+8*(i:Int))
def qh (sp:Sp)(bs:List Bk):List Int:=bs.flatMap λb=>b.1::b.2.1::nO sp b.1 (b.2.1.toNat/8)
theorem ME (sp:Sp)(a:Int)(n:Nat):nO sp a (n+1)=nO sp a n++[QJ sp (a+8*(n:Int))]:=by unfold nO;rw[ox,zy];rfl
theorem Lx {s:Sl}{xs:List Int}(hr:bR s 1 (Wj xs) U Q)(hl:xs.length<=1000000000)(a c:Int){e t:Nat}{K:Sl->Hp->Prop}{S:aP}(hS:∀u,aG U u->S u)(hK:∀s' w,Ext Q U w->bR s' 1 (Wj (xs++[a,c])) w (λb=>Q b\/U.size<=b/\b<w.size)->K s' w) :
 Nw (.cells #[.int .i64 a,.int .i64 c] t (0,0)) U λn v=>App s 1 8 e [.int .i64 0] ⟨some n,2,2⟩ v K:=by
 have r:s.len=xs.length:=by have:=hr.1;simp[Wj]at this;omega
 refine nw (cs:=[.int .i64 a,.int .i64 c]) λv A e1 i=>?_;have d:=aI.bO hr e1;refine d.app (ys:=[.int .i64 a,.int .i64 c]) rfl rfl ?_ (by simp[dO]) ?_ ?_ (show 0<2 by decide) λs' h' z y g=>?_
 ·intro j u hu;rw[add_lit,zH,i.cell];exact hu
 ·simp only;omega
 ·simp only;omega
 ·have m:Ext Q U h':=e1.to.trans y;refine hK s' h' m ?_;have:Wj (xs++[a,c])=Wj xs++[.int .i64 a,.int .i64 c]:=by simp[Wj]
  rw[this];refine aI.mono (aI.cut g) λb x p=>?_;rcases p.1 with h1|h1
  ·exact .inl h1
  ·exact .inr ⟨O,x⟩
theorem FK (hi:HI H held s0){bs:List Bk}(hl:∀b∈bs,(b.1,b)∈H.live):∀n,(qh sp (bs.take n)).length<=n*40000:=by
 intro n;unfold qh;rw[List.length_flatMap];have key:∀l:List Bk,(∀b∈l,(b.1,b)∈H.live)->(l.map λb=>(b.1::b.2.1::nO sp b.1 (b.2.1.toNat/8)).length).sum<=l.length*40000:=by
  intro l
  induction l with
  | nil=>intro _;simp
  | cons b l ih=>
   intro h;have e:=ih λb a=>h b (mC _ a);have d:=hi.iW (h b oh);simp only at d;have g:(nO sp b.1 (b.2.1.toNat/8)).length=b.2.1.toNat/8:=by simp[nO]
   rw[zR,nf,zX,zX,zX,g];omega
 have e:=key (bs.take n) λb a=>hl b (vn a);have d:(bs.take n).length<=n:=by rw[za];omega
 exact zY e (kS _ d)
set_option maxRecDepth 16000 in
theorem DV (h:HH U P L H)(hi:HI H held s0)(hle:H.live.length<=5000){R:Sl->Hp->Prop}(hR:∀s w bs Q,aG U w->m9 H.live bs->bR s 1 (Wj (qh H.sp bs)) w Q->(∀c,Q c->U.size<=c/\c<w.size)->R s w):Xh.c (aW L.p) U R:=by
 refine Xh.o ?_;unfold Xh.v;refine Tw h hi λs v bs e W x=>?_;have hsl:s.len=bs.length:=by have:=x.1;rw[UM]at this;omega
 have hbl:bs.length<=5000:=by rw[W.len];exact hle
 have y:∀b∈bs,(b.1,b)∈H.live:=λb hb=>(W.mem b).1 hb;have g:=aI.cut x;have zv:=e.1;refine VO (a:=.s) (bb:=bN) (λ(out:Sl) (z:Int) u=>aG v u/\∃(i:Nat) (Q:Rg),z=i/\i<=bs.length/\bR out 1 (Wj (qh H.sp (bs.take i))) u Q/\∀c,Q c->v.size<=c/\c<u.size) (λ_ z _=>bs.length-z.toNat) ⟨Ext.refl _ _,0,λ_=>False,rfl,O,⟨rfl,.inl ⟨rfl,rfl⟩⟩,λc d=>d.elim⟩ ?_;rintro(out:Sl) (z:Int) u ⟨eu,i,Q,rfl,hi',hr,hQ⟩;have zu:=eu.1;refine cP (λhlt=>?_) λhge=>?_
 ·have E:bs[i]?=some (bs[i]' O):=cU _;generalize (bs[i]' O)=b at E;have h8:=hi.iW (y b (zG E));simp only at h8;have B:=FK (sp:=H.sp) hi y i;have ad:(qh H.sp (bs.take i)).length<=200000000:=zY B (kS _ (show i<=5000 by omega));clear B;have rd:∀{w:Hp} {j:Nat} {z:Int} {K:Int->Prop},aG v w->(jJ b)[j]?=some (.int .i64 z)->K z->Ix s.a s.len (i:Int) 4 λa=>gE .i64 (a.add j) w K:=λew A J=>wx (bR.fX (aI.bO g ew)) E λD N r=>fE (r _ _ A) J;have C:∀{j:Nat} {z:Int} {K:Int->Prop},(jJ b)[j]?=some (.int .i64 z)->K z->Ix s.a s.len (i:Int) 4 λa=>gG (λm=>aG u m) bN (a.add j) K:=λA J=>wx (bR.fX (aI.bO g eu)) E λD N r=>⟨_,λm em=>by
   have V:D<u.size:=by
    have:=r _ _ A;unfold cell at this;split at this
    ·rename_i h;exact(zz.1 h).1
    ·cases this
   rw[add_lit,Q9 em V id];exact r _ _ A,J⟩
  refine⟨λm=>aG u m,Ext.refl _ _,C (j:=0) rfl (C (j:=1) rfl ?_)⟩;refine Lx (S:=λ_=>True) hr O b.1 b.2.1 (λ_ _=>trivial) λs1 w1 e1 aa=>?_;have E1:aG v w1:=Ext.fresh eu e1 λc d=>(hQ c d).1;have z1:=e1.1;refine rd E1 (j:=0) rfl ?_;refine VO (a:=.s) (bb:=bN) (λ(out:Sl) (z:Int) F=>aG v F/\∃(j:Nat) (Q2:Rg),z=b.1+8*(j:Int)/\(j:Int)*8<=b.2.1/\bR out 1 (Wj (qh H.sp (bs.take i)++[b.1,b.2.1]++nO H.sp b.1 j)) F Q2/\∀c,Q2 c->v.size<=c/\c<F.size) (λ_ z _=>(b.1+b.2.1+8-z).toNat)
   ⟨E1,0,_,O,O,by rw[show nO H.sp b.1 0=[]from rfl,kI];exact aa,λc d=>by
    rcases d with d|d
    ·have:=hQ c d;omega
    ·omega⟩ ?_
  rintro(out2:Sl) (z:Int) F ⟨E2,j,Q2,rfl,A,hr2,hQ2⟩;have z2:=E2.1;refine ar O O (rd E2 (j:=0) rfl (rd E2 (j:=1) rfl (ar O O (cP (λhle2=>?_) λhgt=>?_))))
  ·have h2:=h.bO (e.trans E2);refine Ck h2 _ O λw3 M=>?_;have ac:=aI.bO hr2 M;have G:(nO H.sp b.1 j).length=j:=by simp[nO]
   have z3:=M.1;refine Br ac (by rw[zO,zO,G];simp only[zX,lz];omega) _ λs4 w4 e4 ab=>?_;have E4:aG v w4:=Ext.fresh (E2.trans M) e4 λc d=>(hQ2 c d).1;have z4:=e4.1;refine ar O O ⟨⟨E4,j+1,_,O,O,by rw[ME,←jL];exact ab,λc d=>?_⟩,O⟩;rcases d with d|d
   ·have:=hQ2 c d;omega
   ·omega
  ·have Y:j=b.2.1.toNat/8:=by omega
   have X:qh H.sp (bs.take (i+1))=qh H.sp (bs.take i)++[b.1,b.2.1]++nO H.sp b.1 j:=by
    unfold qh;rw[kN,E,yz,Y];simp[jL]
   exact cS (m:=i+1) O O ⟨⟨E2,i+1,Q2,rfl,O,by rw[X];exact hr2,hQ2⟩,O⟩
 ·have Z:i=bs.length:=by omega
  subst Z;rw[l0]at hr;exact hR out u bs Q (e.trans eu) W hr λc d=>by have:=hQ c d;omega
theorem Jq {a b:Sl}{l:List Bk}(ha:cT a 4 (gH l) U F)(hb:cT b 4 (gH l) U G)(hl:l.length<=1000000){R:aO}(hR:R true U):XN.c a b U R:=by
 refine XN.o ?_;unfold XN.v;have x:=ha.1;have u:=hb.1;rw[UM]at x u;have j:a.len=l.length:=by omega
 have p:b.len=l.length:=by omega
 refine cB (by rw[j,p];simp) (Qc (a:=bN) (λ(i:Int) w=>w=U/\∃k:Nat,i=k/\k<=l.length) (λi _=>l.length-i.toNat) ⟨rfl,0,rfl,O⟩ ?_);rintro(i:Int) w ⟨rfl,k,rfl,hk⟩;refine cP (λy=>?_) λs=>hR;have g:l[k]?=some (l[k]' O):=cU _;generalize (l[k]' O)=r at g;refine wx ha g λA o1 d=>fE (d 0 _ rfl) (fE (d 1 _ rfl) (fE (d 2 _ rfl) (fE (d 3 _ rfl) ?_)));refine wx hb g λz o2 e=>fE (e 0 _ rfl) (fE (e 1 _ rfl) (fE (e 2 _ rfl) (fE (e 3 _ rfl) ?_)));exact cB aA (cS (m:=k+1) O O ⟨⟨rfl,k+1,rfl,O⟩,O⟩)
end Go.Ar
namespace Go.Proofs
open Go.Vc
set_option maxRecDepth 100000
end Go.Proofs
namespace Go.Ar
open Go Go.Vc Go.Proofs
open Go.Vc (bU dA cR)
variable {U σ0 v w w':Hp}{F P Q X T:Rg}{L:dI}{H H' H1:Hw}{held:List Pc}{s0 sp:Sp}{t n:Nat}{gb km fm m xb:Nat}{x y:Gu}{b:B5}{l:Sl}{ds:List eY}{ad:List Int}{la:List T3}{Qa Ql:Rg}{addrs ls:Sl}
theorem AL.nj (al:AL H x ad la)(hi:HI H held s0)(cf:j0 H){k:Int×B5}(hk:k∈x.kn):kD H x 0 k.1 true=0:=by
 unfold kD;rw[zB (by rw[al.ready cf];decide),ZF al.g.nd (show(k.1,k.2)∈x.kn from hk)];simp only;rw[al.g.lost hi hk,al.g.broken hi hk];rfl
theorem AL.sE (al:AL H x ad la)(p:GP σ0 U L H held s0 P gb km fm x)(gc:Gc σ0){k:Int×B5}(hk:k∈x.kn){R:aN}
 (hR:∀w L' H1 held' s0' P',Ext (Mg P gb km fm) U w->GP σ0 w L' H1 held' s0' P' gb km fm (x.gone k.1)->(∀c,P' c->P c\/U.size<=c)->L'.p=L.p->AL H1 (x.gone k.1) ad (la.filter λq=>!(q.1==k.1))->R 0 w):Wy.c (aW gb) 0 k.1 U R:=by
 have m:=al.nj p.hi p.cf hk;refine V2 (VY p gc al.g.i 0 k.1 true (λw j=>absurd m j) λb w ts H1 held' s0' P' e u m z o s y r d=>?_);have out:kZ H x ⟨21,0,0,0,0,0,0,ByteArray.empty⟩ k.1 H1 (x.gone k.1) 0 none true:=.mV (.inl rfl) u m z o s;have a:=(al.out p.hi p.cf out).1;rw[show ad++(none:Option Int).toList=ad by simp]at a;exact hR w {L with ts:=ts} H1 held' s0' P' y r d rfl a
end Go.Ar
namespace Go.Proofs
open Go.Vc
set_option maxRecDepth 100000
def WL.h:Hn:=.q .o2 (.q .o4 (.q (.q (.cQ (.seq [.op,.op,.op,.cW false 6 (RI.ops 6)])) .aJ) (.q .o6 (.q (.q .o3 .aK) (.q .fP (.q .o4 (.q .o6 (.q (.q (.cQ (.seq [.op,.op,.op,.op,.op,.op,.cW false 5 (RI.ops 5)])) (.c (.q (.cQ (.seq [.op,.op,.op,.op,.op,.op,.cW true 1 [.op],.op])) .l) .l)) (.q (.cQ (.held true [6] (.tk [0,1,2,3,4,5] (.all [(6,.tk [7,8,9,10,11] (.done))])))) (.q .o3 (.q (.cQ (.tail 6 (RI.ops 6) [.op,.op])) (.q (.cQ (.seq [.op,.op,.op,.op,.op,.cW true 2 [.op,.op],.op,.cW true 8 (RI.ops 8),.op,.cW true 2 [.op,.op],.op,.cW true 4 (RI.ops 4),.op,.cW true 7 (RI.ops 7),.op])) (.q (.q (.cQ (.seq [.op,.op,.op,.cW false 7 (RI.ops 7)])) .aK) (.q (.cQ (.held true [6] (.tk [0,1,2,3,4,5] (.all [(6,.tk [7,8,9,10,11] (.done))])))) (.q (.cQ (.gR true [14] [(10,.one .b)] (.tk [0,1,2,3] (.split 161 (.tk [4,5,6,7] (.split 165 (.tk [8,9,10,11,12,13] (.all [(14,.tk [15,16,17] (.split 175 (.tk [18,19,20,22] (.all [(21,.all [(23,.all [(24,.tk [25,26,27] (.split 185 (.all [(28,.take 29 (.take 30 (.done)))]) (.take 28 (.take 29 (.take 30 (.done))))))])]),(23,.all [(21,.all [(24,.take 25 (.take 26 (.take 27 (.split 185 (.all [(28,.take 29 (.take 30 (.done)))]) (.take 28 (.take 29 (.take 30 (.done))))))))])])])) (.take 18 (.take 19 (.take 20 (.take 21 (.take 22 (.take 23 (.take 24 (.take 25 (.take 26 (.take 27 (.take 28 (.take 29 (.take 30 (.done))))))))))))))))])) (.take 8 (.take 9 (.take 10 (.take 11 (.take 12 (.take 13 (.all [(14,.take 15 (.take 16 (.take 17 (.take 18 (.take 19 (.take 20 (.take 21 (.take 22 (.take 23 (.take 24 (.take 25 (.take 26 (.take 27 (.take 28 (.take 29 (.take 30 (.done)))))))))))))))))]))))))))) (.take 4 (.take 5 (.take 6 (.take 7 (.take 8 (.take 9 (.take 10 (.take 11 (.take 12 (.take 13 (.all [(14,.take 15 (.take 16 (.take 17 (.take 18 (.take 19 (.take 20 (.take 21 (.take 22 (.take 23 (.take 24 (.take 25 (.take 26 (.take 27 (.take 28 (.take 29 (.take 30 (.done)))))))))))))))))]))))))))))))))) .l)))))))))))))))
def WL.v (a b c d e f:Int)(g:Sl)(h i j:Int)(k:Hp)(l:aO):Prop:=aV #[.I a,.I b,.I c,.I d,.I e,.I f] 25 k λm n=>aQ m 0 n λo=>aQ m 1 n λp=>aQ m 2 n λq=>aQ m 3 n λr=>aQ m 4 n λs=>aQ m 5 n λt=>XM.c o p q r s t g 40 n λu v=>bW (λw x=>If w (Wz.c x λy z=>l y z) (bF u 0 x λab=>X4.c ab x λac ad=>If (((ac.len:Nat):Int)==0) (l false ad) (bL h λae=>Nz ((ac.len:Nat):Int) <| Ix ac.a ac.len (ae.tmod ((ac.len:Nat):Int)) 4 λaf=>aQ af 0 ad λag=>aQ af 1 ad λah=>aQ af 2 ad λai=>aQ af 3 ad λaj=>aV #[.I 0,.I 0,.I 0,.I 0] 52 ad λak al=>aR ak 0 (.I ag) al λam=>aR ak 1 (.I ah) am λan=>aR ak 2 (.I ai) an λao=>aR ak 3 (.I aj) ao λap=>aQ ak 0 ap λaq=>aQ ak 1 ap λar=>aQ ak 2 ap λau=>aQ ak 3 ap λav=>XL.c aq ar au av i ap λaw ax=>bF u 0 ax λaz=>YP.c az ax λa0 a1=>bL (0-aw) λa2=>bL (a2-1) λa3=>bW (λa4 a5=>If a4 (bL (0-aw) λa6=>bL (a6-1) λa7=>bW (λa8 a9=>l a8 a9) λba=>If (j==a7) (Wz.c a5 λbb bc=>ba bb bc) (ba false a5)) (dY a5 λbd=>bV u λbe=>aU bd be 0 λbf=>aS bd ak 0 λbg=>W7.c bf bg a5 λbh bi bj=>Xh.c a0 bj λbk bl=>bF u 0 bl λbn=>aQ ak 0 bl λbo=>Wy.c bn 0 bo bl λbp bq=>
 aV #[.I aw] 3 bq λbr bs=>WS.c bh ⟨some br,1,1⟩ bs λbt bu=>bW (λbv bw=>bW (λbx bz=>bW (λb0 b1=>bW (λb2 b3=>bW (λb4 b5=>bW (λb6 b7=>If b6 (l false b7) (dY b7 λb8=>bV u λb9=>aU b8 b9 0 λca=>aS b8 ak 0 λcb=>W7.c ca cb b7 λcc cd ce=>Jn [.b] (λ(cf:Bool) cg=>l cf cg) λch=>dY ce λci=>If (((cc.len:Nat):Int)==0) (If (cd==0) (bV u λcj=>aU ci cj 0 λck=>aS ci ak 0 λcl=>Wy.c ck 0 cl ce λcm cn=>If (cm==0) (bV u λco=>(aY co 0 cn λcp=>aQ ak 0 cn λcq=>Wy.c cp 0 cq cn λcr cs=>If (cr==9) (Wz.c cs λct cu=>ch ct cu) (ch false cs)) ∧ (aQ ak 0 cn λcv=>aY co 0 cn λcw=>Wy.c cw 0 cv cn λcx cy=>If (cx==9) (Wz.c cy λcz c0=>ch cz c0) (ch false cy))) (ch false cn)) (ch false ce)) (ch false ce))) λc1=>If (!b4) (c1 true b5) (bL (0-aw) λc2=>bL (c2-1) λc3=>WN.c a0 aw c3 b5 λc4 c5=>c1 (c4 != 0) c5)) λc6=>If b2 (bF u 0 b3 λc8=>X4.c c8 b3 λc9 da=>XN.c ac c9 da λdb dc=>c6 db dc) (c6 false b3)) λdd=>If b0 (Xh.c a0 b1 λde df=>WS.c bk de df λdg dh=>dd dg dh) (dd false b1)) λdi=>If bx (di (bp==10) bz) (di false bz)) λdj=>If bv (bF u 0 bw λdl=>XC.c dl bw λdm dn=>aV #[.I aw] 3 dn λdp dq=>WS.c dm ⟨some dp,1,1⟩ dq λdr ds=>dj dr ds) (dj false bw)) λdt=>If bt (dt (bi==0) bu) (dt false bu))) λdu=>If (j==a3) (du true a1) (WN.c a0 aw j a1 λdv dw=>
 du (dv != 0) dw)))) λdx=>If u.isNone (dx true v) (bE u 2 v λdz=>dx (((dz.len:Nat):Int)==0) v)
theorem WL.o {a b c d e f g h i j k l}(m:WL.v a b c d e f g h i j k l):WL.c a b c d e f g h i j k l:=Wa Tryz.func7 (x:=WL.h) (R0 m)
end Go.Proofs
namespace Go.Ar
open Go Go.Vc Go.Proofs
open Go.Vc (bU dA cR)
variable {U σ0 v w w':Hp}{F P Q X T:Rg}{L:dI}{H H' H1:Hw}{held:List Pc}{s0 sp:Sp}{t n:Nat}{gb km fm m xb:Nat}{x y:Gu}{b:B5}{l:Sl}{ds:List eY}{ad:List Int}{la:List T3}{Qa Ql:Rg}{addrs ls:Sl}
def pz (a:Int)(n:Nat):List Int:=(List.range n).map λ(i:Nat)=>a+8*(i:Int)
theorem Ia (a:Int)(n:Nat):pz a (n+1)=pz a n++[a+8*(n:Int)]:=by unfold pz;rw[ox,zy];rfl
theorem yj (a:Int)(n:Nat):(pz a n).length=n:=by simp[pz]
theorem L9 (bi:gL b){R:Sl->Hp->Prop}(hR:∀s w Q,aG U w->bR s 1 (Wj (pz b.2.2.1 (QH b))) w Q->(∀c,Q c->U.size<=c/\c<w.size)->R s w):Xv.c b.1 b.2.1 b.2.2.1 b.2.2.2.1 U R:=by
 refine Xv.o ?_;unfold Xv.v;have bb:=bi.base;have G:=bi.z;have F:=bi.m;have H:=bi.t;have E:=bi.s;have D:=ZK (n:=b.2.1) O;have y:(QH b:Int)*8=b.1-b.2.2.1:=by unfold QH;omega
 refine nw (cs:=jJ (b.1,b.2.1,b.2.2.1,b.2.2.2.1)) λv B e r=>r.rI rfl ?_;refine VO (a:=.s) (bb:=bN) (λ(out:Sl) (z:Int) u=>aG v u/\∃(i:Nat) (Q:Rg),z=b.2.2.1+8*(i:Int)/\i<=QH b/\bR out 1 (Wj (pz b.2.2.1 i)) u Q/\∀c,Q c->v.size<=c/\c<u.size) (λ_ z _=>(b.1-z).toNat)
  ⟨Ext.refl _ _,0,λ_=>False,by show b.2.2.1=_;omega,O,⟨rfl,.inl ⟨rfl,rfl⟩⟩,λc d=>d.elim⟩ ?_
 rintro(out:Sl) (z:Int) u ⟨eu,i,Q,rfl,hi,hr,hQ⟩;have A:=eu.1;refine(eu.bT r id).rI rfl (cP (λj=>?_) λp=>?_)
 ·simp only at j;refine Br hr (by rw[yj];omega) _ λC w x g=>?_;refine ar O O ⟨⟨Ext.fresh eu x λc d=>(hQ c d).1,i+1,_,O,O,by rw[Ia];exact g,λc d=>?_⟩,O⟩;have:=x.1;rcases d with d|d
  ·have:=hQ c d;omega
  ·omega
 ·simp only at p;have:i=QH b:=by omega
  subst this;exact hR out u Q (e.trans eu) hr λc d=>by have:=hQ c d;omega
theorem Tg (bi:gL b){R:Sl->Hp->Prop}(hR:∀s w Q,aG U w->bR s 1 (Wj (pz (b.1+YI b.2.1) (Ue b))) w Q->(∀c,Q c->U.size<=c/\c<w.size)->R s w):XO.c b.1 b.2.1 b.2.2.1 b.2.2.2.1 U R:=by
 refine XO.o ?_;unfold XO.v;have bb:=bi.base;have H:=bi.z;have L:=bi.m;have J:=bi.t;have K:=bi.s;have G:=ZK (n:=b.2.1) O;have C:(Ue b:Int)*8=b.2.2.1+b.2.2.2.1-b.1-YI b.2.1:=by unfold Ue;omega
 refine nw (cs:=jJ (b.1,b.2.1,b.2.2.1,b.2.2.2.1)) λv E e x=>?_;have B:∀m,aG v m->bY m U.size (jJ (b.1,b.2.1,b.2.2.1,b.2.2.2.1)):=λm e=>e.bT x id;refine⟨λm=>aG v m,Ext.refl _ _,gp (c:=bN) (y:=b.1) B rfl (gp (c:=bN) (y:=b.2.1) B rfl (NC _ O O ⟨Ext.refl _ _,ar O O ?_⟩))⟩;refine VO (a:=.s) (bb:=bN) (λ(out:Sl) (z:Int) u=>aG v u/\∃(i:Nat) (Q:Rg),z=b.1+YI b.2.1+8*(i:Int)/\i<=Ue b/\bR out 1 (Wj (pz (b.1+YI b.2.1) i)) u Q/\∀c,Q c->v.size<=c/\c<u.size) (λ_ z _=>(b.2.2.1+b.2.2.2.1-z).toNat)
  ⟨Ext.refl _ _,0,λ_=>False,by show b.1+YI b.2.1=_;omega,O,⟨rfl,.inl ⟨rfl,rfl⟩⟩,λc d=>d.elim⟩ ?_
 rintro(out:Sl) (z:Int) u ⟨eu,i,Q,rfl,hi,hr,hQ⟩;have D:=eu.1;have g:=eu.bT x id;refine ar O O (g.rI rfl (g.rI rfl (ar (by show _<=b.2.2.1+b.2.2.2.1;omega) (by show b.2.2.1+b.2.2.2.1<=_;omega) (cP (λr=>?_) λp=>?_))))
 ·simp only at r;refine Br hr (by rw[yj];omega) _ λF w A j=>?_;refine ar O O ⟨⟨Ext.fresh eu A λc d=>(hQ c d).1,i+1,_,O,O,by rw[Ia];exact j,λc d=>?_⟩,O⟩;have:=A.1;rcases d with d|d
  ·have:=hQ c d;omega
  ·omega
 ·simp only at p;have:i=Ue b:=by omega
  subst this;exact hR out u Q (e.trans eu) hr λc d=>by have:=hQ c d;omega
theorem Je (bi:gL b){vat:Int}(hv:0<=vat/\vat<=255){R:aN}(hR:∀z w,aG U w->z∈XV b->R z w):XL.c b.1 b.2.1 b.2.2.1 b.2.2.2.1 vat U R:=by
 refine XL.o ?_;unfold XL.v;have X:=bi.base;have Y:=bi.z;have Q:=bi.m;have Z:=bi.t;have W:=bi.s;have P:=ZK (n:=b.2.1) O;have D:(QH b:Int)*8=b.1-b.2.2.1:=by unfold QH;omega
 have J:(Ue b:Int)*8=b.2.2.1+b.2.2.2.1-b.1-YI b.2.1:=by unfold Ue;omega
 refine nw (cs:=jJ (b.1,b.2.1,b.2.2.1,b.2.2.2.1)) λv V e B=>?_;have a:∀m,aG v m->bY m U.size (jJ (b.1,b.2.1,b.2.2.1,b.2.2.2.1)):=λm e=>e.bT B id;refine⟨λm=>aG v m,Ext.refl _ _,gp (c:=bN) (y:=b.1) a rfl (gp (c:=bN) (y:=b.2.1) a rfl (gp (c:=bN) (y:=b.2.2.1) a rfl (gp (c:=bN) (y:=b.2.2.2.1) a rfl (gp (c:=bN) (y:=b.1) a rfl (gp (c:=bN) (y:=b.2.1) a rfl (gp (c:=bN) (y:=b.2.2.1) a rfl (gp (c:=bN) (y:=b.2.2.2.1) a rfl ?_)))))))⟩;refine L9 bi λs1 N Q1 e1 L C=>⟨e1,Tg bi λs2 S Q2 e2 A M=>⟨e1.trans e2,?_⟩⟩;have g:=aI.bO L e2;refine vZ g A (by rw[yj,yj];omega) λd w3 F j=>?_;have E3:aG v w3:=Ext.fresh (e1.trans e2) F λc H=>by have:=C c H;omega
 have u:pz b.2.2.1 (QH b)++pz (b.1+YI b.2.1) (Ue b)=XV b:=rfl;rw[u]at j;have K:d.len=(XV b).length:=by have:=j.1;simp[Wj]at this;omega
 have E:=Gk b;have x:vat%(d.len:Int)<(d.len:Int):=CA vat O;have r:0<=vat%(d.len:Int):=Int.emod_nonneg vat O;refine⟨E3,ar O O (nz O ?_)⟩;rw[Qq hv.1];obtain⟨i,G⟩:∃i:Nat,vat%(d.len:Int)=(i:Int):=⟨(vat%(d.len:Int)).toNat,O⟩;rw[G];have p:(XV b)[i]?=some ((XV b)[i]' O):=cU _;generalize ((XV b)[i]' O)=z at p;exact(bR.fX j).mI p (hR z w3 (e.trans E3) (zG p))
theorem PZ (bi:gL b):(XV b).Nodup:=by
 have r:=bi.base;have x:=bi.z;have y:=bi.s;have w:=ZK (n:=b.2.1) O;unfold XV;rw[nC];refine⟨(pf.2 (List.nodup_range.imp λh e=>h O)),(pf.2 (List.nodup_range.imp λh e=>h O)),λa g c m=>?_⟩;obtain⟨i,d,rfl⟩:=zE.1 g;obtain⟨j,u,rfl⟩:=zE.1 m;have:=zd.1 d;have p:(QH b:Int)*8<=b.1-b.2.2.1:=by unfold QH;omega
 omega
theorem NQ {l:List Int}{z:Int}(hn:l.Nodup)(hz:z∈l){f:Int->Bool}(hf:∀u∈l,f u=decide (u=z)):l.filter f=[z]:=by
 have:l.filter f=l.filter λu=>u==z:=ur λu d=>by rw[hf u d];rfl
 rw[this];clear this hf
 induction l with
 | nil=>simp at hz
 | cons a l ih=>
  rw[zo]at hn;rcases zV.1 hz with h|h
  ·subst h;have b:l.filter (λu=>u==z)=[]:=by
    rw[BO];intro u d he;have i:u=z:=by simpa using he
    rw[i]at d;exact hn.1 d
   rw[tG aA,b]
  ·have g:a≠z:=λe=>hn.1 (e▸h);rw[sr (by simpa using g)];exact ih hn.2 h
theorem U1 {wz:Nat}{u:Int}(hm:gf sp.st (wz/32)≠0)(w:Nat):QJ (W5 sp ((8*wz:Nat):Int) u) ((8*w:Nat):Int)=if w=wz then u else QJ sp ((8*w:Nat):Int):=by
 have:=KR (f:=λ_=>u) (l:=[((8*wz:Nat):Int)]) (sp:=sp) (λz a=>by rw[zL]at a;subst a;omega) w;have e:j6 sp [((8*wz:Nat):Int)] (λ_=>u)=W5 sp ((8*wz:Nat):Int) u:=rfl;rw[e]at this;rw[this];by_cases hw:w=wz
 ·subst hw;rw[zC ⟨zL.2 rfl,hm⟩,zC rfl]
 ·rw[zB λh=>hw (by have:=zL.1 h.1;omega),zB hw]
theorem Iv (sp:Sp)(a u z:Int):dT (W5 sp a u) z=dT sp z:=JE (λp=>(Un sp a u).2.1 p) z
theorem Hj (H:Hw)(s:Sp)(b:B5):Ug {H with sp:=s} b=Ug H b:=rfl
theorem JR (H:Hw)(s:Sp)(t:Int):Qw {H with sp:=s} t=Qw H t:=rfl
structure sJ (H:Hw) (x:Gu) (k:Int×B5) (z value:Int):Prop where
 bad:QW (W5 H.sp z value) k.2=[z]
 Ml:∀q∈x.kn,q≠k->QW (W5 H.sp z value) q.2=[]
theorem dN.A5 (g:dN H x)(hi:HI H held s0){k:Int×B5}(hk:k∈x.kn){z value:Int}(hz:z∈XV k.2)(hv:value≠gF z):sJ H x k z value:=by
 obtain⟨⟨e,rfl⟩,r,m⟩:=(g.i k hk).2.word (.inl hz);have s:=g.map hi hk r m;have key:∀q∈x.kn,∀u∈XV q.2,jl (W5 H.sp ((8*e:Nat):Int) value) u=decide (u=((8*e:Nat):Int)):=λq b u a=>by
  obtain⟨⟨w,rfl⟩,j,p⟩:=(g.i q b).2.word (.inl a);unfold jl;rw[Iv,g.acc hi b (.inl a),U1 s w];by_cases h:w=e
  ·subst h;rw[zC rfl,zJ rfl];simpa using hv
  ·rw[zB h,g.can q b _ a,zN O];simp
 refine⟨NQ (PZ (g.i k hk).2) hz λu a=>key k hk u a,λq b d=>?_⟩;unfold QW;rw[BO];intro u a hb;rw[key q b u a]at hb;have y:=rO hb;subst y;obtain⟨_,j,p⟩:=(g.i q b).2.word (.inl a);exact d (g.apart hi b hk j p r m)
theorem FP {α:Type}{f:α->List Int}{k:α}{z:Int}:∀{l:List α},l.Nodup->k∈l->f k=[z]->(∀q∈l,q≠k->f q=[])->l.flatMap f=[z]
 | [],_,h,_,_=>by simp at h
 | a::l,hn,h,h1,h2=>by
  rw[zo]at hn;rw[nJ];rcases zV.1 h with h3|h3
  ·subst h3;have:l.flatMap f=[]:=List.flatMap_eq_nil_iff.2 λq b=>h2 q (mC _ b) λe=>hn.1 (e▸b);rw[h1,this];rfl
  ·rw[h2 a oh λe=>hn.1 (e▸h3),FP hn.2 h3 h1 λq b=>h2 q (mC _ b)];rfl
theorem dN.nodup (g:dN H x):x.kn.Nodup:=(pf.1 g.nd).imp λh e=>h (by rw[e])
theorem sJ.tell {k:Int×B5}{z value:Int}(hu:sJ H x k z value)(g:dN H x)(hi:HI H held s0)(hk:k∈x.kn)(hr:Qw H 0=0) :
 tY {H with sp:=W5 H.sp z value} x k.1=[z]/\tj {H with sp:=W5 H.sp z value} x k.1=0/\oe {H with sp:=W5 H.sp z value} x=[z]/\kD {H with sp:=W5 H.sp z value} x 0 k.1 true=10:=by
 have d:bU x.kn k.1=some k.2:=ZF g.nd (show(k.1,k.2)∈x.kn from hk);have a:=g.lost hi hk;refine⟨?_,?_,?_,?_⟩
 ·unfold tY;rw[d];simp only;rw[Hj,a,hu.bad];rfl
 ·unfold tj;rw[d];simp only;rw[Hj,a];rfl
 ·unfold oe;refine FP g.nodup hk ?_ λq e b=>?_
  ·unfold nB;rw[Hj,a,hu.bad];rfl
  ·unfold nB;rw[Hj,g.lost hi e,hu.Ml q e b];rfl
 ·unfold kD;rw[JR,zB (by rw[hr];decide),d];simp only;rw[Hj,a,hu.bad];rfl
theorem dN.sO (g:dN H x)(hi:HI H held s0){k:Int×B5}(hk:k∈x.kn){z value:Int}(hz:z∈XV k.2):dN {H with sp:=W5 (W5 H.sp z value) z (gF z)} x:=by
 obtain⟨⟨a,rfl⟩,p,m⟩:=(g.i k hk).2.word (.inl hz);have j:=g.map hi hk p m;have b:gf (W5 H.sp ((8*a:Nat):Int) value).st (a/32)≠0:=λh=>j (((Un H.sp _ value).2.1 _).1 h);refine⟨g.live,λq e u d=>?_,g.ph,g.i,g.nd⟩;show QJ (W5 (W5 H.sp ((8*a:Nat):Int) value) ((8*a:Nat):Int) (gF ((8*a:Nat):Int))) u=_;obtain⟨⟨w,rfl⟩,r,s⟩:=(g.i q e).2.word (.inl d);rw[U1 b,U1 j];by_cases h:w=a
 ·subst h;rw[zC rfl]
 ·rw[zB h,zB h];exact g.can q e _ d
set_option maxRecDepth 16000 in
theorem JS (gl:Gl U)(gc:Gc U)(b b1 b2 b3 b4 b5:Int)(hd:jv U l ds){which vat:Int}(hwh:0<=which/\which<=255)(hvt:0<=vat/\vat<=255)(value:Int){R:aO}(hR:∀σ',aG U σ'->R true σ'):WL.c b b1 b2 b3 b4 b5 l which vat value U R:=by
 refine WL.o ?_;unfold WL.v;refine nw (cs:=[.int .i64 b,.int .i64 b1,.int .i64 b2,.int .i64 b3,.int .i64 b4,.int .i64 b5]) λv hz e hb=>hb.rI rfl (hb.rI rfl (hb.rI rfl (hb.rI rfl (hb.rI rfl (hb.rI rfl ?_)))));have aw:∀{v1},aG U v1->Wz.c v1 λt15 v2=>R t15 v2:=λe1=>Eo (gl.bO e1) (gc.bO e1) λv2 e2=>hR v2 (e1.trans e2);have A:=gc.bO e;refine Jr (gl.bO e) A b b1 b2 b3 b4 b5 (hd.bO e) 40 aB (λv1 e1=>bW.intro (cC rfl (cC rfl (aw (e.trans e1))))) λv1 xb L H held s0 P gb km fm x Qa Ql addrs ad ls la o a hno=>bW.intro (cB rfl (bK (o.b.rS rfl (cO (λh0=>aw (e.trans o.p.e)) λhne=>?_))));have n0:=a.n0;have nl:=a.nl;have hll:ls.len=la.length:=by have:=o.rl.1;rw[VS]at this;omega
 have hlk:la.length=x.kn.length:=by have:=congrArg List.length a.lq;simpa using this
 have hpos:0<x.kn.length:=by
  have:(((ls.len:Nat):Int)==0)=false:=hne;rw[tu]at this;have:ls.len≠0:=by simpa using this
  omega
 refine bK (o.b.rP rfl (FG o.p a.g.i O λs v3 es e3 hes D=>?_));have hsl:s.len=es.length:=by have:=D.1;rw[UM,zl]at this;omega
 have hel:=hes.p.length_eq;have o3:=o.fr e3;have hmod:which%(s.len:Int)<(s.len:Int):=CA which O;have hmod0:0<=which%(s.len:Int):=Int.emod_nonneg which O;refine cB (by rw[hsl,hel,tu,l6];omega) (ar O O (nz O ?_));rw[Qq hwh.1];obtain⟨i,hi⟩:∃i:Nat,which%(s.len:Int)=(i:Int):=⟨(which%(s.len:Int)).toNat,O⟩;rw[hi];have hx:es[i]?=some (es[i]' O):=cU _;generalize (es[i]' O)=k at hx;have Z:k∈x.kn:=hes.p.mem_iff.1 (zG hx);have hx4:(es.map Go.Ar.b4)[i]?=some (Go.Ar.b4 k):=by rw[zg,hx];rfl
 have r:=a.g.i k Z;have k1:=r.1;have kb:=r.2.base;have kz:=r.2.z;have kt:=r.2.t;have km':=r.2.m;have ks:=r.2.s;have kw:=ZK (n:=k.2.2.1) O;have hrow':=aI.cut D;refine wx (bR.fX D) hx4 λbb oo B=>fE (B 0 _ rfl) (fE (B 1 _ rfl) (fE (B 2 _ rfl) (fE (B 3 _ rfl) (Av λv9 e9 hy=>?_))));have o9:=o3.fr e9;refine hy.rI rfl (hy.rI rfl (hy.rI rfl (hy.rI rfl (Je r.2 hvt λz v10 X W=>?_))));have hzi:=UG r.2 W;have fP:=o9.fr X;have d:=X.bT hy id;have ae:dT H.sp z=0:=a.g.acc fP.p.hi Z (.inl W);refine bK (fP.b.rP rfl (Pz fP.p (ar O O (ar O O ?_))));have G:0-z-1=gF z:=by unfold gF;omega
 rw[G];refine bW.intro (cO (λheq=>cC rfl (ar O O (ar O O (bW.intro (cC (by rw[G];exact heq) (aw (e.trans fP.p.e))))))) λhneq=>?_);have hval:value≠gF z:=by simpa using hneq
 refine fP.p.write A z value O λv11 s1 P1 N p1 hP1=>?_;rw[ae];refine cB aB ?_;have o11:=fP.fo (N.sub λc B=>.inl B) p1 hP1;have hu:=a.g.A5 fP.p.hi Z W hval;have hrd:=a.ready fP.p.cf;obtain⟨t1,t2,t3,t4⟩:=hu.tell a.g fP.p.hi Z hrd;have xi:=a.g.i;have hnP:∀c,v1.size<=c->c<v10.size->¬P c:=λc h1 h2 hp=>by have:=(o.p.pP c hp).2;omega
 have z3:=e3.1;have z9:=e9.1;have z10:=X.1;have z11:=N.1;have F:bY v11 v3.size (jJ (Go.Ar.b4 k)):=N.bT d λhp=>hnP _ z3 (by have:=d.lt;exact this) hp;have V:bR s 4 (gH (es.map Go.Ar.b4)) v11 (λc=>v1.size<=c/\c<v3.size):=aI.bS (aI.bO (aI.mono hrow' λc _ B=>B) (e9.trans X)) N λc _ B hp=>hnP c B.1 (by have:=B.2;omega) hp;have hlv:H.live.length=x.kn.length:=by have:=congrArg List.length a.g.live;simpa using this
 refine⟨λm=>aG v11 m,Ext.refl _ _,bK (gp (c:=.p) (y:=some ⟨gb,0,none⟩) (λm e=>e.bT o11.b id) rfl (gp (c:=bN) (y:=k.2.1) (λm e=>e.bT F id) rfl ?_))⟩;rw[←k1];refine Hh p1 xi k.1 λs5 v12 Q5 Y hs5 _=>?_;rw[t1]at hs5;rw[t2];have p12:=p1.fr Y;refine DV p12.h p12.hi (by show H.live.length<=5000;omega) λs6 v13 bs6 Q6 E hl6 hs6 _=>?_;have p13:=p12.fr E;have o13:=o11.fr (Y.trans E);have hy13:=(Y.trans E).bT F id;refine bK (o13.b.rP rfl (hy13.rI (x:=k.1) (by show some (Value.int .i64 k.2.1)=_;rw[k1]) (V2 (VY p13 A xi 0 k.1 true (λw hne ew=>?_) λb w ts H1 held' s0' P' e hm h=>by rw[t4]at h;cases h))));rw[t4];have o14:=o13.fr ew;refine nw (cs:=[.int .i64 z]) λv15 hz15 M b15=>?_;have E15:=(E.trans ew).trans M;have hz1:cT ⟨some ⟨w.size,0,none⟩,1,1⟩ 1 (Wj [z]) v15 (· = w.size):=b15.fX rfl rfl λj hj=>by rw[zH];rfl
 refine Hb (bR.fX (aI.bO hs5 E15)) hz1 aA (bW.intro (cC aA ?_));have o15:=o14.fr M;refine bW.intro (cC rfl (bK (o15.b.rP rfl (Ep o15.p xi (by rw[t3];simp) λs7 v16 e16 aa=>?_))));rw[t3]at aa;obtain⟨Q7,aa,_⟩:=aa aA;refine nw (cs:=[.int .i64 z]) λv17 hz17 J b17=>?_;have hz2:cT ⟨some ⟨v16.size,0,none⟩,1,1⟩ 1 (Wj [z]) v17 (· = v16.size):=b17.fX rfl rfl λj hj=>by rw[zH];rfl
 refine Hb (bR.fX (aI.bO aa J)) hz2 aA ?_;have Q:=o15.fr (e16.trans J);rw[zJ (rfl:([z]:List Int)=[z])];refine bW.intro (cC rfl (bW.intro (cC rfl ?_)));refine DV Q.p.h Q.p.hi (by show H.live.length<=5000;omega) λs8 v18 bs8 Q8 e18 hl8 hs8 _=>?_;have hbe:=LW hl6 hl8;subst hbe;have hs6':=aI.bO hs6 ((((ew.trans M).trans e16).trans J).trans e18);have hwl:(qh (W5 H.sp z value) bs6).length<=1000000000:=by
  have h1:=FK (sp:=W5 H.sp z value) Q.p.hi (λb hb=>(hl6.mem b).1 hb) bs6.length;rw[l0]at h1;have h2:bs6.length<=1000:=by rw[hl6.len];show H.live.length<=1000;omega
  exact zY h1 (zY (kS _ h2) aB)
 refine Hb (bR.fX hs6') (bR.fX hs8) hwl ?_;rw[zJ rfl];have o18:=Q.fr e18;refine bW.intro (cC rfl (bK (o18.b.rP rfl (FG o18.p xi O λs9 v19 es9 e19 hes9 hrow9=>?_))));have hee:=RW hes hes9;subst hee;have E19:=(((((((Y.trans E).trans ew).trans M).trans e16).trans J).trans e18).trans e19);refine Jq (bR.fX (aI.bO V E19)) (bR.fX hrow9) (by rw[zl];omega) ?_;have o19:=o18.fr e19;refine bW.intro (cB rfl (ar O O (ar O O ?_)));rw[G];refine o19.p.write A z (gF z) O λv20 s2 P2 e20 p2 hP2=>?_;have hacc2:dT (W5 H.sp z value) z=0:=by rw[Iv];exact ae
 rw[hacc2];refine cB aB ?_;have C:=o19.fo (e20.sub λc B=>.inl B) p2 hP2;have ab:=E19.bT F id;have af:v3.size<v19.size/\¬P1 v3.size:=by
  have:=ab.lt;refine⟨this,λhp=>?_⟩;rcases hP1 _ hp with h|h
  ·exact hnP _ z3 (by have:=d.lt;exact this) h
  ·have:=d.lt;omega
 have hy20:=e20.bT ab af.2;have al2:AL {H with sp:=W5 (W5 H.sp z value) z (gF z)} x ad la:=⟨a.g.sO fP.p.hi Z W,a.n0,a.nl,a.lq,a.ok,a.dq,a.th⟩;have ah:bU x.kn k.1=some k.2:=ZF a.g.nd (show(k.1,k.2)∈x.kn from Z);have hlo:=al2.g.lost C.p.hi Z;have hbr:=al2.g.broken C.p.hi Z;refine⟨λm=>aG v20 m,Ext.refl _ _,bK (gp (c:=.p) (y:=some ⟨gb,0,none⟩) (λm e=>e.bT C.b id) rfl (gp (c:=bN) (y:=k.2.1) (λm e=>e.bT hy20 id) rfl ?_))⟩;rw[←k1];refine Hh C.p xi k.1 λs10 v21 Q10 e21 hs10 _=>Jn.intro ?_;have hck:tY {H with sp:=W5 (W5 H.sp z value) z (gF z)} x k.1=[]:=by
  unfold tY;rw[ah];simp only;rw[hlo,hbr];rfl
 have hce:tj {H with sp:=W5 (W5 H.sp z value) z (gF z)} x k.1=0:=by
  unfold tj;rw[ah];simp only;rw[hlo];rfl
 rw[hck]at hs10;rw[hce];have hl10:s10.len=0:=by have:=hs10.1;simp[Wj]at this;omega
 rw[hl10];have o21:=C.fr e21;have ag:=e21.bT hy20 id;refine⟨λm=>aG v21 m,Ext.refl _ _,cC aB (cC aB (bK (gp (c:=.p) (y:=some ⟨gb,0,none⟩) (λm e=>e.bT o21.b id) rfl (gp (c:=bN) (y:=k.2.1) (λm e=>e.bT ag id) rfl ?_))))⟩;rw[←k1];refine al2.sE o21.p A Z λv22 L' H2 held2 s3 P3 e22 S hP3 hLp al3=>cC aB ?_;have o22:=o21.fo e22 S hP3;have hnM:¬Mg P2 gb km fm v3.size:=λhM=>by
  rcases uI (n:=v10.size) ⟨fP.p.b.lt,fP.p.m.lt,fP.p.f.lt⟩ (P:=P1) (λb h=>(hP2 b h).imp id λh=>by have:=E19.1;omega) _ hM with h|h
  ·rcases h with h|h
   ·exact af.2 h
   ·rcases h with h|h|h
    ·have:=o.p.b.lt;omega
    ·have:=o.p.m.lt;omega
    ·have:=o.p.f.lt;omega
  ·have:=d.lt;omega
 have ac:=e22.bT ag hnM;have h9:kD H2 (x.gone k.1) 0 k.1 true=9:=by
  unfold kD;rw[zB (by rw[al3.ready S.cf];decide)];have h1:bU (x.gone k.1).kn k.1=none:=by show bU (cR x.kn k.1) k.1=none;rw[Ht,zC rfl]
  have h2:bU (x.gone k.1).fr k.1=some true:=by show bU (dA x.fr k.1 true) k.1=some true;rw[VJ,zC rfl]
  rw[h1];simp only;rw[h2];rfl
 have last:∀{K:aO},(∀u,aG U u->K true u)->Wy.c (aW gb) 0 k.1 v22 λt182 v29=>If (t182==9) (Wz.c v29 λt186 v30=>K t186 v30) (K false v29):=λhK=>by
  refine V2 (VY S A al3.g.i 0 k.1 true (λw2 _ e2=>?_) λb w ts H1 held' s0' P' e hm h=>by rw[h9]at h;cases h);rw[h9];refine cC aB ?_;have E2:=e.trans (S.e.trans e2);exact Eo (gl.bO E2) (gc.bO E2) λq eq=>hK q (E2.trans eq)
 exact bK ⟨o22.b.rP rfl (ac.rI (x:=k.1) (by show some (Value.int .i64 k.2.1)=_;rw[k1]) (last λu hu=>hR u hu)),ac.rI (x:=k.1) (by show some (Value.int .i64 k.2.1)=_;rw[k1]) (o22.b.rP rfl (last λu hu=>hR u hu))⟩
end Go.Ar
namespace Go.Ar
open Go Go.Vc Go.Proofs Go.ChangeShapes Go.WideShapes Go.RowKit Go.Deep
theorem Gs {H:Type}{enc:TypeId×Value->H}{P:Program}{w:World}{base:Nat}{sp:Nat->Bool}{held:Bool}{fuel:Nat}{t:TypeId}{c:Value}{y:DataW H×List MemPlace}
 (ht:P.underlying t=some .bool) (h:DataW.trod enc P w base sp held fuel t [c]=some y):∃n,c=.bool n/\y=(.lit (.bool n),[]):=by
 cases fuel with
 | zero=>simp[DataW.trod]at h
 | succ fuel=>
  cases c<;>simp[DataW.trod,ht]at h
  rename_i n;exact⟨n,rfl,by simpa using h.symm⟩
theorem BK {P:Program}{w:World}{t:TypeId}{f0 f1:Field}{cs:Array Value}{fuel:Nat}{p:List MemPlace}{x y:Bool}(ht:P.underlying t=some (.struct #[f0,f1]))(hone:oneCellFields P #[f0,f1]=true)(hC:P.cellsOf t=2)
 (h0:P.underlying f0.type=some .bool) (h1:P.underlying f1.type=some .bool) (h:DataW.trod (λ_=>()) P w 0 (λ_=>true) false fuel t cs.toList=some (.agg [.lit (.bool x),.lit (.bool y)],p)):cs = #[.bool x,.bool y]:=by
 obtain⟨r,n,A,i,a,e,b⟩:=DataW.trod_struct ht h;obtain⟨l⟩:=cs;have d:l.length=2:=by rw[←hC];simpa using a
 match l,d with
 | [c0,c1],_=>
  have g:=b 0 f0 rfl;have j:=b 1 f1 rfl;obtain⟨s,m⟩:=hone_of hone 0 f0 rfl;obtain⟨o1,u⟩:=hone_of hone 1 f1 rfl;rw[s,m]at g;rw[o1,u]at j
  match r,e with
  | [y0,y1],_=>
   obtain⟨B,rfl,z⟩:=Gs h0 (c:=c0) (y:=y0) (by simpa using g);obtain⟨C,rfl,e1⟩:=Gs h1 (c:=c1) (y:=y1) (by simpa using j);subst z;subst e1;simp at i;obtain⟨⟨rfl,rfl⟩,_⟩:=i;rfl
theorem HW {w:World}{a:Addr}{v:Value}(h:w.cell? a=some v):cell w.heap a=some v:=h
section
variable {H:Type}{enc:TypeId×Value->H}{P:Program}{w:World}
theorem RM {x:Int}(h:(Lit.int .i64 x).wf=true):jO x:=by
 unfold jO;simp[Lit.wf,IntKind.min,IntKind.max,IntKind.bits,IntKind.signed]at h;omega
theorem Fl {x:Int}(h:(Lit.int .u8 x).wf=true):0<=x/\x<=255:=by
 simp[Lit.wf,IntKind.min,IntKind.max,IntKind.bits,IntKind.signed]at h;omega
theorem Rz {t:TypeId}{f0 f1 f2 f3 f4 f5 f6 f7:Field}{fuel:Nat}{cs:List Value}{y:DataW H×List MemPlace}
 (ht:P.underlying t=some (.struct #[f0,f1,f2,f3,f4,f5,f6,f7])) (hone:oneCellFields P #[f0,f1,f2,f3,f4,f5,f6,f7]=true) (hC:P.cellsOf t=8)
 (h0:P.underlying f0.type=some (.int .i64)) (h1:P.underlying f1.type=some (.int .i64)) (h2:P.underlying f2.type=some (.int .i64)) (h3:P.underlying f3.type=some (.int .i64)) (h4:P.underlying f4.type=some (.int .i64)) (h5:P.underlying f5.type=some (.int .i64)) (h6:P.underlying f6.type=some (.int .i64)) (h7:P.underlying f7.type=some .string)
 (h:DataW.trod enc P w 0 (λ_=>true) true fuel t cs=some y):∃d:eY,cs=re d/\lT d:=by
 obtain⟨u,n,U,V,b,p,r⟩:=DataW.trod_struct ht h;have g:cs.length=8:=by rw[←hC];exact b
 match cs,g with
 | [c0,c1,c2,c3,c4,c5,c6,c7],_=>
  have one:∀(j:Nat) (f:Field) (c:Value),(#[f0,f1,f2,f3,f4,f5,f6,f7]:Array Field)[j]?=some f->[c0,c1,c2,c3,c4,c5,c6,c7][j]?=some c->∃z,DataW.trod enc P w 0 (λ_=>true) true n f.type [c]=some z:=by
   intro j f c hj hc;obtain⟨G,L⟩:=hone_of hone j f hj;have h3:=r j f hj;rw[G,L]at h3;have a:=(cX.1 hc).1;have e1:([c0,c1,c2,c3,c4,c5,c6,c7].drop j).take 1=[c]:=by
    rw[wh a,uw,xJ,(cX.1 hc).2]
   rw[e1]at h3;have m:u[j]?=some (u[j]'(by rw[p];simp at a ⊢;omega)):=cU _;rw[m]at h3;exact⟨_,h3⟩
  have int:∀(j:Nat) (f:Field) (c:Value),(#[f0,f1,f2,f3,f4,f5,f6,f7]:Array Field)[j]?=some f->[c0,c1,c2,c3,c4,c5,c6,c7][j]?=some c->P.underlying f.type=some (.int .i64)->∃x:Int,c=.int .i64 x/\jO x:=by
   intro j f c hj hc hu;obtain⟨z,i⟩:=one j f c hj hc;obtain⟨x,e,_,K⟩:=DataW.trod_int hu i;simp only[List.cons.injEq,and_true]at e;exact⟨x,e,RM K⟩
  obtain⟨C,rfl,_⟩:=int 0 f0 c0 rfl rfl h0;obtain⟨Q,rfl,_⟩:=int 1 f1 c1 rfl rfl h1;obtain⟨D,rfl,J⟩:=int 2 f2 c2 rfl rfl h2;obtain⟨F,rfl,M⟩:=int 3 f3 c3 rfl rfl h3;obtain⟨R,rfl,_⟩:=int 4 f4 c4 rfl rfl h4;obtain⟨S,rfl,N⟩:=int 5 f5 c5 rfl rfl h5;obtain⟨E,rfl,B⟩:=int 6 f6 c6 rfl rfl h6;obtain⟨z,i⟩:=one 7 f7 c7 rfl rfl;obtain⟨s,A,_⟩:=DataW.trod_string h7 i;simp only[List.cons.injEq,and_true]at A;subst A;exact⟨⟨C,Q,D,F,R,S,E,s⟩,rfl,J,M,N,B⟩
theorem MY {t e:TypeId}{f0 f1 f2 f3 f4 f5 f6 f7:Field}{a:Option Addr}{len cap:Nat}{d:DataW H}{ps:List MemPlace}
 (htl:P.underlying t=some (.slice e)) (ht:P.underlying e=some (.struct #[f0,f1,f2,f3,f4,f5,f6,f7])) (hone:oneCellFields P #[f0,f1,f2,f3,f4,f5,f6,f7]=true) (hC:P.cellsOf e=8)
 (h0:P.underlying f0.type=some (.int .i64)) (h1:P.underlying f1.type=some (.int .i64)) (h2:P.underlying f2.type=some (.int .i64)) (h3:P.underlying f3.type=some (.int .i64)) (h4:P.underlying f4.type=some (.int .i64)) (h5:P.underlying f5.type=some (.int .i64)) (h6:P.underlying f6.type=some (.int .i64)) (h7:P.underlying f7.type=some .string)
 (h:DataW.Trod enc P w 0 (λ_=>true) true t (.slice a len cap) d ps):∃ds,jv w.heap ⟨a,len,cap⟩ ds:=by
 obtain⟨Q,W⟩:=h;rcases open_slice htl W with⟨r,_⟩|⟨ad,len',cap',m,n,D,Pl,r,_,hl,hm,hmm,z,y⟩
 ·simp[Value.cells]at r;obtain⟨rfl,rfl,rfl⟩:=r;exact⟨[],rfl,λi x z=>by simp at z,by simp,by simp⟩
 ·simp[Value.cells]at r;obtain⟨rfl,rfl,rfl⟩:=r;have U:m=cap:=by simpa using hmm
  have key:∀i,i<len->∃u:eY,(∀j v,(re u)[j]?=some v->cell w.heap ((ad.add (i*8)).add j)=some v)/\lT u:=by
   intro i p;obtain⟨V,F,G⟩:=y i O;rw[hC]at F;obtain⟨x,r,L⟩:=Rz ht hone hC h0 h1 h2 h3 h4 h5 h6 h7 G;obtain⟨_,S,J⟩:=World.cells?_some F;refine⟨x,λj v C=>?_,L⟩;have R:=(cX.1 C).1;have:=J j (by simpa[re]using R);rw[r]at this;rw[C]at this;exact this
  let g:Nat->eY:=λi=>if y:i<len then(key i y).choose else⟨0,0,0,0,0,0,0,ByteArray.empty⟩
  have N:∀i,(y:i<len)->g i=(key i y).choose:=λi y=>by simp only[g,y,dif_pos]
  refine⟨(List.range len).map g,by simp,λi x z=>?_,λx z=>?_,?_⟩
  ·have p:i<len:=by
    have:=(cX.1 z).1;simpa using this
   have B:g i=x:=by simpa[p]using z
   rw[N i p]at B;have E:=(key i p).choose_spec;rw[B]at E;obtain⟨F,_⟩:=E;have M:=(key 0 O).choose_spec.1;have K:=M 0 _ rfl;have A:=DP K;simp only[uW,Addr.add_zero']at A;obtain⟨b,o,s⟩:=ad;have E:s=none:=A.2;subst E;refine⟨b,o,rfl,A.1,λj v C=>?_⟩;have:=F j v C;rw[add_lit,add_lit]at this;exact this
  ·obtain⟨i,y,rfl⟩:=zE.1 z;have p:=zd.1 y;rw[N i p];exact(key i p).choose_spec.2
  ·have:maxLen=9223372036854775807:=rfl;simp;omega
theorem I6 {b0:Nat}{t:TypeId}{f0 f1 g0 g1 g2 g3 g4:Field}{v:Value}{d:DataW H}{ps:List MemPlace}
 (ht:P.underlying t=some (.struct #[f0,f1])) (hC:P.cellsOf t=6) (ho:f0.offset=0/\P.cellsOf f0.type=1/\f1.offset=1/\P.cellsOf f1.type=5)
 (h0:P.underlying f0.type=some (.int .i64)) (h1:P.underlying f1.type=some (.struct #[g0,g1,g2,g3,g4])) (hone:oneCellFields P #[g0,g1,g2,g3,g4]=true)
 (k0:P.underlying g0.type=some (.int .i64)) (k1:P.underlying g1.type=some (.int .i64)) (k2:P.underlying g2.type=some (.int .i64)) (k3:P.underlying g3.type=some (.int .i64)) (k4:P.underlying g4.type=some (.int .i64))
 (hval:Value.okWide P w .any b0 t v) (h:DataW.Trod enc P w 0 (λ_=>true) true t v d ps):∃(x0 x1 x2 x3 x4 x5:Int),v=.agg #[.int .i64 x0,.int .i64 x1,.int .i64 x2,.int .i64 x3,.int .i64 x4,.int .i64 x5]:=by
 unfold Value.okWide at hval;rw[ht]at hval;obtain⟨L,rfl,m,_⟩:=hval;obtain⟨e,s⟩:=h;obtain⟨l⟩:=L;have i:l.length=6:=by rw[←hC];simpa using m
 obtain⟨A,p,r,C⟩:=ho
 match l,i with
 | [c0,c1,c2,c3,c4,c5],_=>
  have s:DataW.trod enc P w 0 (λ_=>true) true e t [c0,c1,c2,c3,c4,c5]=some (d,ps):=s;obtain⟨y0,y1,n,_,_,F,G⟩:=trod_struct2 ht s;rw[A,p]at F;rw[r,C]at G;have z:DataW.trod enc P w 0 (λ_=>true) true n f0.type [c0]=some y0:=F;have B:DataW.trod enc P w 0 (λ_=>true) true n f1.type [c1,c2,c3,c4,c5]=some y1:=G;obtain⟨x0,b,_,_⟩:=DataW.trod_int h0 z;simp only[List.cons.injEq,and_true]at b;subst b;obtain⟨J,n,N,Q,K,E,y⟩:=DataW.trod_struct h1 B;have int:∀(j:Nat) (f:Field) (c:Value),(#[g0,g1,g2,g3,g4]:Array Field)[j]?=some f->[c1,c2,c3,c4,c5][j]?=some c->P.underlying f.type=some (.int .i64)->∃x:Int,c=.int .i64 x:=by
   intro j f c hj hc hu;obtain⟨ho,M⟩:=hone_of hone j f hj;have g:=y j f hj;rw[ho,M]at g;have a:=(cX.1 hc).1;have e1:([c1,c2,c3,c4,c5].drop j).take 1=[c]:=by
    rw[wh a,uw,xJ,(cX.1 hc).2]
   rw[e1]at g;have D:J[j]?=some (J[j]'(by rw[E];simp at a ⊢;omega)):=cU _;rw[D]at g;obtain⟨x,u,_,_⟩:=DataW.trod_int hu g;exact⟨x,by simpa using u⟩
  obtain⟨x1,rfl⟩:=int 0 g0 c1 rfl rfl k0;obtain⟨x2,rfl⟩:=int 1 g1 c2 rfl rfl k1;obtain⟨x3,rfl⟩:=int 2 g2 c3 rfl rfl k2;obtain⟨x4,rfl⟩:=int 3 g3 c4 rfl rfl k3;obtain⟨x5,rfl⟩:=int 4 g4 c5 rfl rfl k4;exact⟨x0,x1,x2,x3,x4,x5,rfl⟩
end
end Go.Ar