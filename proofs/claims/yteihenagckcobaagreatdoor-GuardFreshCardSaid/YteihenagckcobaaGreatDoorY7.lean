/- Texts joined. -/
import Derived.Shelf.SlSortCmp.NoneTotal
import Derived.Ground.SlsfProg
import Derived.Test.YteihenagckcobaaGreatDoorProg
import Derived.Shelf.SlIterI.Nil
import Derived.Ground.GgzProg
import Derived.Test.YteihenagckcobaaGreatDoorRows
import Derived.ChangeVars
import Derived.JoinedOf
import Derived.RowKit
import Derived.WalkKit
import Derived.ProofKit
import Derived.OpenShut
import Derived.ChangeOld
import Derived.Carry
import Derived.Test.YteihenagckcobaaGreatDoorY6
set_option linter.unusedVariables false
set_option linter.unusedSimpArgs false
namespace Go.Ar
open Go Go.Vc Go.Proofs
variable {U w:Hp}
def lV:Nat->Int->Int->List T3
 | 0,_,_=>[]
 | n+1,s,w=>if s<512 then kJ s w::lV n (s+wq s w) w else[]
def allM (w:Int):List T3:=lV 64 8 w++[kJ 512 w]
def GY (l:List T3)(i:Nat):Bool:=i==l.length-1||(match l[i]?,l[i+1]? with
 | some x,some y=>x.2.1 != y.2.1||l0 x != l0 y
 | _,_=>false)
def k9 (l:List T3)(n:Nat):List T3:=(List.range n).filterMap λi=>if GY l i then l[i]? else none
def qy (w:Int):List T3:=k9 (allM w) (allM w).length
def sW (x:T3):Prop:=8<=x.1/\x.1<=512/\1<=x.2.1/\x.2.1<=4
theorem Co (s w:Int)(h1:8<=s)(h2:s<=512):sW (kJ s w):=⟨h1,h2,Mz s w 4⟩
theorem sP {Q:Rg}{s:Sl}{l:List T3}{e1 e2:Nat}(ho:Go.Vc.Own Q U s 3 (jZ l))(hQ:∀b,U.size<=b->Q b)(hl:l.length<=1000)(x:T3){K:Sl->Hp->Prop}(hK:∀s' σ',Ext Q U σ'->Go.Vc.Own Q σ' s' 3 (jZ (l++[x]))->K s' σ') :
 Nw (.cells #[.int .i64 x.1,.int .i64 x.2.1,.int .i64 x.2.2] e1 (0,0)) U λn20 v3=>App s 3 24 e2 [.int .i64 0,.int .i64 0,.int .i64 0] ⟨some n20,1,1⟩ v3 K:=by
 have i:s.len=l.length:=by have:=ho.1;rw[V9]at this;omega
 refine nw (cs:=v3 x) λv p e a=>?_;refine(ho.bO e).app (ys:=v3 x) (λb a=>hQ b O) rfl rfl ?_ (by simp[v3,dQ]) ?_ ?_ mG λs' g _ d m _=>hK s' g ?_ ?_
 ·intro j u hu;rw[add_lit,zH,a.cell];exact hu
 ·simp only;have:(s.len+1)*24<=1001*24:=lR O O;omega
 ·simp only;omega
 ·exact(bK.to e).trans (d.sub λb a=>((ho.bO e).jd a).1)
 ·rw[A8];exact m
theorem Mi (w:Int)(h:w<2\/16<w){R:Sl->Int->Hp->Prop}(hR:R ⟨none,0,0⟩ 1 U):WO.c w U R:=by
 refine WO.o ?_;unfold WO.v;exact bV.intro (cQ (λa=>cD rfl hR) λa=>cD (zJ O) hR)
theorem BY (w:Int)(hw1:2<=w)(hw2:w<=16){R:Sl->Int->Hp->Prop}(hR:∀s' σ',bK U σ'->ic σ' s' (qy w)->R s' 0 σ'):WO.c w U R:=by
 refine WO.o ?_;unfold WO.v;refine bV.intro (fS O (cB (zM O) ?_));refine UO (a:=.s) (bb:=bN) (λ(all:Sl) (s:Int) u=>∃(n:Nat) (done:List T3),8<=s/\s<=768/\bK U u/\Go.Vc.Own (λb=>U.size<=b) u all 3 (jZ done)/\done++lV n s w=lV 64 8 w/\512<=s+8*(n:Int)/\(∀x∈done,sW x)/\done.length+n=64) (λ_ s _=>1000-s.toNat) ⟨64,[],O,O,Ext.refl _ _,Own.nil _ _ _,rfl,O,by simp,by simp⟩ ?_;rintro(all:Sl) (s:Int) u ⟨n,done,hs1,hs2,eu,ho,hdone,hn,hok,hlen⟩;refine cQ (λM=>?_) λP=>?_
 ·obtain⟨n,rfl⟩:∃m,n=m+1:=⟨n-1,O⟩;refine EY s w O O hw1 hw2 λv2 e2=>?_;refine sP (ho.bO e2) (λb E=>by have:=eu.1;have:=e2.1;omega) O (kJ s w) λall1 v4 e4 h4=>?_;have e04:bK U v4:=Ext.dV (eu.trans e2) e4 λb E=>.inr E;refine RE s w O O hw1 λd1 d2=>ar O O ⟨⟨n,done++[kJ s w],O,O,e04,h4,?_,O,λx B=>?_,by simp;omega⟩,O⟩
  ·rw[←hdone,zz]
   congr 1
   conv=>rhs;rw[lV,zC M]
   rfl
  ·rcases zK.1 B with h1|h1
   ·exact hok x h1
   ·rw[zN]at h1;subst h1;exact Co s w O O
 ·have S:lV n s w=[]:=by
   cases n with
   | zero=>rfl
   | succ n=>rw[lV,zB P]
  rw[S,kX]at hdone;refine EY 512 w O O hw1 hw2 λv6 e6=>?_;refine sP (ho.bO e6) (λb E=>by have:=eu.1;have:=e6.1;omega) O (kJ 512 w) λe v8 e8 J=>?_;have e08:bK U v8:=Ext.dV (eu.trans e6) e8 λb E=>.inr E;rw[hdone]at J;have A:∀x∈allM w,sW x:=λx B=>by
   rcases zK.1 B with h1|h1
   ·rw[←hdone]at h1;exact hok x h1
   ·rw[zN]at h1;subst h1;exact Co 512 w O O
  have hml:(allM w).length<=65:=by unfold allM;rw[←hdone];simp;omega
  have J:Go.Vc.Own (λb=>U.size<=b) v8 e 3 (jZ (allM w)):=J;generalize hall:allM w=l at J A hml;have hmk:qy w=k9 l l.length:=by unfold qy;rw[hall]
  have hl2:e.len=l.length:=by have:=J.1;rw[V9]at this;omega
  refine UO (a:=.s) (bb:=bN) (λ(out:Sl) (z:Int) u=>∃i:Nat,z=(i:Int)/\i<=l.length/\bK v8 u/\Go.Vc.Own (λb=>v8.size<=b) u out 3 (jZ (k9 l i))/\(k9 l i).length<=i) (λ_ z _=>l.length-z.toNat) ⟨0,rfl,O,Ext.refl _ _,Own.nil _ _ _,by simp[k9]⟩ ?_;rintro(out:Sl) (z:Int) u ⟨i,rfl,hi,eu8,hout,hol⟩;refine cQ (λM=>?_) λP=>?_
  ·have hi':i<l.length:=by omega
   have B:l[i]?=some l[i]:=cV hi';generalize l[i]=x at B;have D:=A x (zG B);have g:k9 l (i+1)=k9 l i++(if GY l i then[x]else[]):=by
    unfold k9;rw[qm,uP]
    congr 1
    by_cases hk:GY l i=true
    ·simp[hk,B]
    ·simp[hk]
   have hA:∀m,bK u m->ic m e l:=λm d=>FP (J.bO (eu8.trans d));refine xB (λr u'=>bK u u'/\r=GY l i) (λr u' ⟨p,Z⟩=>?_) λJ3 H=>?_
   ·have L:=hout.bO p;cases hk:GY l i with
    | true=>
     rw[hk]at Z g;refine cD Z (wU (hA u' p) B ?_);refine sP L (λb E=>by have:=eu8.1;have:=p.1;omega) O x λout1 v12 e12 h12=>?_;refine cP (m:=i+1) O O ⟨⟨i+1,rfl,O,Ext.dV (eu8.trans p) e12 λb E=>.inr E,?_,?_⟩,O⟩
     ·rw[g];exact h12
     ·rw[g];simp;omega
    | false=>
     rw[hk]at Z g;refine cB Z (cP (m:=i+1) O O ⟨⟨i+1,rfl,O,eu8.trans p,?_,?_⟩,O⟩)
     ·rw[g];simpa using L
     ·rw[g];simp;omega
   ·refine⟨λm=>bK u m,Ext.refl _ _,ar O O ?_⟩;refine cO (λF=>H _ _ ⟨Ext.refl _ _,?_⟩) λhnl=>?_
    ·have:i=l.length-1:=by simp only[zS]at F;omega
     unfold GY;rw[this];simp
    ·have hi2:i+1<l.length:=by simp only[mf]at hnl;omega
     have hy:l[i+1]?=some l[i+1]:=cV hi2;generalize l[i+1]=y at hy;have C:=A y (zG hy);have W:GY l i=(x.2.1 != y.2.1||l0 x != l0 y):=by
      unfold GY;rw[B,hy];have:(i==l.length-1)=false:=by simp only[mf];omega
      rw[this];rfl
     have X:=λ(m:Hp) (d:bK u m)=>(hA m d).2 i x.1 x.2.1 x.2.2 B;have hcy:=λ(m:Hp) (d:bK u m)=>(hA m d).2 (i+1) y.1 y.2.1 y.2.2 hy;obtain⟨b,o,ha,_,_⟩:=X u (Ext.refl _ _);have rx:∀m,bK u m->cell m ⟨b,o+i*3,none⟩=some (.int .i64 x.1)/\cell m ⟨b,o+i*3+1,none⟩=some (.int .i64 x.2.1)/\cell m ⟨b,o+i*3+2,none⟩=some (.int .i64 x.2.2):=λm d=>by
      obtain⟨b',o',j,_,h⟩:=X m d;rw[ha]at j;cases j;exact h
     have Y:∀m,bK u m->cell m ⟨b,o+(i+1)*3,none⟩=some (.int .i64 y.1)/\cell m ⟨b,o+(i+1)*3+1,none⟩=some (.int .i64 y.2.1)/\cell m ⟨b,o+(i+1)*3+2,none⟩=some (.int .i64 y.2.2):=λm d=>by
      obtain⟨b',o',j,_,h⟩:=hcy m d;rw[ha]at j;cases j;exact h
     have V:∀{K:Addr->Prop},K ⟨b,o+i*3,none⟩->Ix e.a e.len (i:Int) 3 K:=λhK=>by
      rw[ha];exact ix O O (by rw[add_lit,dE];exact hK)
     have N:∀{K:Addr->Prop},K ⟨b,o+(i+1)*3,none⟩->Ix e.a e.len ((i+1:Nat):Int) 3 K:=λhK=>by
      rw[ha];exact ix O O (by rw[add_lit,dE];exact hK)
     refine V ⟨x.2.1,λm d=>by rw[add_lit];exact(rx m d).2.1,cP (m:=i+1) O O (N ⟨y.2.1,λm d=>by rw[add_lit];exact(Y m d).2.1,?_⟩)⟩;refine cO (λhp=>H _ _ ⟨Ext.refl _ _,by rw[W,hp];rfl⟩) λhp=>?_;refine V ⟨x.1,λm d=>by rw[add_lit];exact(rx m d).1,⟨x.2.1,λm d=>by rw[add_lit];exact(rx m d).2.1,⟨x.2.2,λm d=>by rw[add_lit];exact(rx m d).2.2,?_⟩⟩⟩;refine cP (m:=i+1) O O (N ⟨y.1,λm d=>by rw[add_lit];exact(Y m d).1,⟨y.2.1,λm d=>by rw[add_lit];exact(Y m d).2.1,⟨y.2.2,λm d=>by rw[add_lit];exact(Y m d).2.2,?_⟩⟩⟩);refine C2 x D.1 D.2.1 D.2.2.1 D.2.2.2 λv13 G=>⟨G,C2 y C.1 C.2.1 C.2.2.1 C.2.2.2 λv14 Q=>⟨G.trans Q,H _ _ ⟨G.trans Q,by rw[W,hp];rfl⟩⟩⟩
  ·have hil:i=l.length:=by omega
   subst hil;refine hR out u (e08.trans eu8) ?_;rw[hmk];exact FP hout
theorem Hv:∀w:Nat,2<=w->w<=16->Qd (qy (w:Int))=true:=by
 have h:((List.range 17).all λw=>decide (w<2)||Qd (qy (w:Int)))=true:=by decide +kernel
 intro w h1 h2;have:=jW.1 h w (zc.2 O);simp only[nm,zU]at this;exact this.resolve_left O
end Go.Ar
namespace Go.Proofs
open Go.Shelf
def Tryz.eP:Go.Shelf.Ren:=⟨fun|6=>263|15=>87|14=>291|28=>128|29=>129|20=>311|21=>312|22=>313|23=>314|24=>315|25=>316|26=>317|27=>318|46=>324|47=>185|48=>186|49=>325|50=>326|57=>328|n=>n,fun|22=>129|24=>135|25=>341|3=>3|39=>145|0=>0|53=>196|55=>55|4=>4|46=>188|45=>187|50=>193|5=>5|9=>9|66=>271|70=>275|76=>324|77=>325|n=>n,fun|n=>n⟩
theorem Tryz.om:Go.Proofs.SlLaysF0.n6 Tryz.prog Tryz.eP:={
 mixed:=by kernel_rfl
 f6:=⟨Tryz.f263.name,by decide,Tryz.func263.trans (congrArg some (by kernel_rfl))⟩
 f14:=⟨Tryz.f291.name,by decide,Tryz.func291.trans (congrArg some (by kernel_rfl))⟩
 f15:=Tryz.func87.trans (congrArg some (by kernel_rfl))
 f20:=⟨Tryz.f311.name,by decide,Tryz.func311.trans (congrArg some (by kernel_rfl))⟩
 f21:=⟨Tryz.f312.name,by decide,Tryz.func312.trans (congrArg some (by kernel_rfl))⟩
 f22:=⟨Tryz.f313.name,by decide,Tryz.func313.trans (congrArg some (by kernel_rfl))⟩
 f23:=⟨Tryz.f314.name,by decide,Tryz.func314.trans (congrArg some (by kernel_rfl))⟩
 f24:=⟨Tryz.f315.name,by decide,Tryz.func315.trans (congrArg some (by kernel_rfl))⟩
 f25:=⟨Tryz.f316.name,by decide,Tryz.func316.trans (congrArg some (by kernel_rfl))⟩
 f26:=⟨Tryz.f317.name,by decide,Tryz.func317.trans (congrArg some (by kernel_rfl))⟩
 f27:=⟨Tryz.f318.name,by decide,Tryz.func318.trans (congrArg some (by kernel_rfl))⟩
 f28:=Tryz.func128.trans (congrArg some (by kernel_rfl))
 f29:=Tryz.func129.trans (congrArg some (by kernel_rfl))
 f46:=⟨Tryz.f324.name,by decide,Tryz.func324.trans (congrArg some (by kernel_rfl))⟩
 f47:=Tryz.func185.trans (congrArg some (by kernel_rfl))
 f48:=Tryz.func186.trans (congrArg some (by kernel_rfl))
 f49:=⟨Tryz.f325.name,by decide,Tryz.func325.trans (congrArg some (by kernel_rfl))⟩
 f50:=⟨Tryz.f326.name,by decide,Tryz.func326.trans (congrArg some (by kernel_rfl))⟩
 f57:=⟨Tryz.f328.name,by decide,Tryz.func328.trans (congrArg some (by kernel_rfl))⟩
 t0:=Tryz.underlying0
 a0:=Tryz.isAgg0
 z0:=Tryz.sizeOf0
 v0:=Tryz.zeroValue0
 t3:=Tryz.underlying3
 a3:=Tryz.isAgg3
 z3:=Tryz.sizeOf3
 v3:=Tryz.zeroValue3
 t4:=Tryz.underlying4
 a4:=Tryz.isAgg4
 z4:=Tryz.sizeOf4
 v4:=Tryz.zeroValue4
 t5:=Tryz.underlying5
 a5:=Tryz.isAgg5
 z5:=Tryz.sizeOf5
 v5:=Tryz.zeroValue5
 t9:=Tryz.underlying9
 a9:=Tryz.isAgg9
 z9:=Tryz.sizeOf9
 v9:=Tryz.zeroValue9
 t22:=Tryz.underlying129
 a22:=Tryz.isAgg129
 z22:=Tryz.sizeOf129
 v22:=Tryz.zeroValue129
 t25:=Tryz.underlying341
 a25:=Tryz.isAgg341
 z25:=Tryz.sizeOf341
 v25:=Tryz.zeroValue341
 t39:=Tryz.underlying145
 a39:=Tryz.isAgg145
 z39:=Tryz.sizeOf145
 v39:=Tryz.zeroValue145
 t45:=Tryz.underlying187
 a45:=Tryz.isAgg187
 z45:=Tryz.sizeOf187
 v45:=Tryz.zeroValue187
 t46:=Tryz.underlying188
 a46:=Tryz.isAgg188
 z46:=Tryz.sizeOf188
 v46:=Tryz.zeroValue188
 t50:=Tryz.underlying193
 a50:=Tryz.isAgg193
 z50:=Tryz.sizeOf193
 v50:=Tryz.zeroValue193
 t53:=Tryz.underlying196
 a53:=Tryz.isAgg196
 z53:=Tryz.sizeOf196
 v53:=Tryz.zeroValue196
 t55:=Tryz.underlying55
 a55:=Tryz.isAgg55
 z55:=Tryz.sizeOf55
 v55:=Tryz.zeroValue55
 t66:=Tryz.underlying271
 a66:=Tryz.isAgg271
 z66:=Tryz.sizeOf271
 v66:=Tryz.zeroValue271
 t70:=Tryz.underlying275
 a70:=Tryz.isAgg275
 z70:=Tryz.sizeOf275
 v70:=Tryz.zeroValue275
 t76:=Tryz.underlying324
 a76:=Tryz.isAgg324
 z76:=Tryz.sizeOf324
 v76:=Tryz.zeroValue324
 t77:=Tryz.underlying325
 a77:=Tryz.isAgg325
 z77:=Tryz.sizeOf325
 v77:=Tryz.zeroValue325}
end Go.Proofs
namespace Go.Ar
open Go Go.Vc Go.Proofs Go.RowKit Go.Sort Go.Shelf Go.Lib
abbrev r9:=Fin 64×Sl
instance:Inhabited r9:=⟨(0,⟨none,0,0⟩)⟩
def j7 (x:r9):List Value:=[.int .i64 (x.1.val:Int),.slice x.2.a x.2.len x.2.cap]
def nM (x y:r9):Int:=(x.1.val:Int)-(y.1.val:Int)
theorem zx (x y:r9)(W:World):Calls Tryz.prog 264 #[.agg #[.int .i64 (x.1.val:Int),.slice x.2.a x.2.len x.2.cap],.agg #[.int .i64 (y.1.val:Int),.slice y.2.a y.2.len y.2.cap]] W λe w'=>e=.returned (.int .i64 (nM x y))/\∃q os',w'=grow (W.drewN q) os':=by
 have d:IntKind.i64.wrap ((x.1.val:Int)-(y.1.val:Int))=nM x y:=by
  have b:=x.1.isLt;have g:=y.1.isLt;unfold nM;exact Ud O O
 go_enter Tryz.func264,Tryz.ntmps264
 go_wp2
 go_ret
 exact⟨rfl,0,_,by rw[alloc_eq_grow,alloc_eq_grow,grow_grow];rfl⟩
theorem As:SWO (ltOf nM) where
 irrefl x:=by simp[ltOf,nM]
 trans x y z a h2:=by
  have a:=rH a;have h2:=rH h2;unfold nM at a h2;exact zJ (by unfold nM;omega)
 ntrans x y z a h2:=by
  have a:=sK a;have h2:=sK h2;unfold nM at a h2;exact zM (by unfold nM;omega)
def sY (x:r9):Nat×Sl:=(x.1.val,x.2)
theorem EJ (l:List r9)(j:Nat)(hj:j<l.length*2):(fE (l.map sY))[j]?=some (flatK j7 2 l.toArray)[j]! := by
 rw[get_flatK _ _ _ _ (by simpa using hj)];have a:j/2<l.length:=by omega
 have e1:l.toArray[j/2]! = l[j/2]:=by rw[getElem!_pos _ _ (by simpa using a)];simp
 have b:(l.map sY)[j/2]?=some (sY l[j/2]):=by simp[a]
 have:=RU b (d:=j%2) O;rw[show 2*(j/2)+j%2=j by omega]at this;rw[this,e1];have hd:j%2=0\/j%2=1:=by omega
 rcases hd with h|h<;>rw[h]<;>rfl
theorem Ep:H4:=by
 intro U F s xs hrow hk hlen R hR;rintro w rfl;have Z:s.len=xs.length:=by have:=hrow.1;rw[Kt]at this;omega
 rcases hrow.2 with⟨h0,hc0⟩|⟨b,cs,hF,ha,hb,hle,hcl,ht⟩
 ·have L:xs=[]:=vQ.1 O;have:=AnyF.slices_SortFunc_none Tryz.om s.a s.cap (.func (.func 264) #[] #[]) w;show Calls _ _ #[.slice s.a s.len s.cap,.func (.func 264) #[] #[]] w _;rw[h0];refine this.mono ?_;rintro e W ⟨rfl,rfl⟩;subst L;exact⟨.refl _,[],rfl,hR [] _ (.refl _) List.Pairwise.nil (Ext.refl _ _) hrow⟩
 ·have G:∀x∈xs,x.1<64:=hk
  let toK:Nat×Sl->r9:=λx=>(Fin.ofNat 64 x.1,x.2)
  have u:(xs.map toK).map sY=xs:=by
   rw[k8]
   conv=>rhs;rw[←uY xs]
   apply ko;intro x hx;simp only[Function.comp,toK,sY,Fin.ofNat,id];rw[ux (G x hx)]
  have N:(xs.map toK).length=xs.length:=by simp
  generalize xs.map toK=l at u N;have z:=hb.lt;have X:HoldsK j7 2 w b 0 l.toArray:=by
   intro j hj;simp only[size_flatK,wO]at hj;have V:Vc.cell w.heap ⟨b,0+j,none⟩=some (flatK j7 2 l.toArray)[j]! := by
    rw[hb.cell,zH,←EJ l j hj,u];rw[←ht,zj,zC (by rw[Kt];omega)]
   exact⟨V,hb.nf⟩
  have eg:∀args w,(callFunc 264 args).run Tryz.prog w=.ok (.enter 264 args) w:=enters_of Tryz.func264 (by kernel_rfl) rfl;have A:∀w,(isAgg (Tryz.eP.t 24)).run Tryz.prog w=.ok true w:=λw=>by
   have h:=KB (P:=Tryz.prog) (t:=Tryz.eP.t 24) (d:=(Tryz.prog.underlying (Tryz.eP.t 24)).getD .bool) (by kernel_rfl) w
   rwa [show V7 ((Tryz.prog.underlying (Tryz.eP.t 24)).getD .bool)=true by kernel_rfl]at h
  have E:∀w,(Go.sizeOf (Tryz.eP.t 24)).run Tryz.prog w=.ok 2 w:=λw=>by
   have h:=QA (P:=Tryz.prog) (t:=Tryz.eP.t 24) (by kernel_rfl) w
   rwa [show Tryz.prog.cellsOf (Tryz.eP.t 24)=2 by kernel_rfl]at h
  have B:=AnyQ.slices_SortFunc Tryz.om 2 A E j7 (λ_=>rfl) (λx v S=>by simp only[j7,zW,List.not_mem_nil,or_false]at S;rcases S with rfl|rfl<;>rfl) nM As 264 #[] b 0 s.cap l.toArray w eg (λ_ _ _ _ x y=>zx x y _) X z (by simp only[wO];omega)
  show Calls _ _ #[.slice s.a s.len s.cap,.func (.func 264) #[] #[]] w _;rw[ha,show s.len=l.toArray.size by simp only[wO];omega];refine B.mono ?_;rintro e W ⟨rfl,d',n,os,Q,M,rfl⟩;have g:d'.size=l.length:=by simpa using Q.1
  have r:d'.toList.Perm l:=by
   have J:=Q.2.2;rw[show l.toArray.size=d'.size by simp[g]]at J;have e1:(d'.extract 0 d'.size)=d':=by simp
   have e2:(l.toArray.extract 0 d'.size)=l.toArray:=by rw[g];simp
   rw[e1,e2]at J;simpa using J
  obtain⟨ty,H⟩:=hb;have m:(sortWorldK j7 2 w b 0 n d' os).heap=(w.heap.modify b (onCells (putCells id 0 (flatK j7 2 d'))))++os:=rfl;have p:(w.heap.modify b (onCells (putCells id 0 (flatK j7 2 d')))).size=w.heap.size:=by simp
  refine⟨⟨rfl,rfl,rfl,by rw[m,xu,p];omega⟩,[],rfl,?_⟩;rw[m];have C:Ext F w.heap ((w.heap.modify b (onCells (putCells id 0 (flatK j7 2 d'))))++os):=by
   refine⟨by rw[xu,p];omega,λq hq Y=>?_⟩;rw[td (by rw[p];exact hq),tW,zB λ(e:b=q)=>Y (by rw[←e];exact hF)]
  refine hR (d'.toList.map sY) _ ?_ ?_ C ⟨?_,.inr ⟨b,(putCells id 0 (flatK j7 2 d') cs.toArray).toList,hF,ha,⟨ty,?_⟩,hle,?_,?_⟩⟩
  ·rw[←u];exact r.map _
  ·rw[uk];rw[l3];intro i j hi hj hij;have D:=M i j O hij (by simp only[uK]at hj;simp only[wO];omega);rw[getElem!_pos d' i (by simpa using hi),getElem!_pos d' j (by simpa using hj)]at D;have D:=sK D;unfold nM at D;simp only[sY,Array.getElem_toList];omega
  ·rw[Kt,zl,uK,g];omega
  ·rw[td (by rw[p];exact z),tW,zC rfl,H];simp[onCells]
  ·simp[putCells,hcl]
  ·rw[Kt,zl,uK,g];apply zo;intro j;rw[zj];by_cases hj:j<l.length*2
   ·rw[zC hj,EJ d'.toList j (by simpa[g]using hj)];have K:j<cs.length:=by
     have:l.length*2<=s.cap*2:=lS _ O;omega
    simp only[putCells,uW,Array.getElem?_mapIdx,List.getElem?_toArray,cV K,zX];rw[zC ⟨O,by rw[size_flatK,g];omega⟩];simp
   ·rw[zB hj,zV (by rw[Kt,zl,uK,g];omega)]
end Go.Ar
namespace Go.Proofs
open Go.Vc
set_option maxRecDepth 100000
def XJ.h:Hn:=.q .o2 (.q (.q (.cR (.seq [.op,.op,.op,.cU false 3 (RI.ops 3)])) .aK) (.q .o3 (.q (.q .o2 .aK) (.q (.q .o1 (.k (.loop [(8,.I)] (.q (.q .o4 (.c .l .l)) (.q (.k .o6) .o3))))) .aL))))
def XJ.v (a b c d e f:Int)(g:Sl)(h:Int)(i:Hp)(j:Option Addr->Hp->Prop):Prop:=aV #[.I a,.I b,.I c,.I d,.I e,.I f] 25 i λk l=>aQ k 0 l λm=>aQ k 1 l λn=>aQ k 2 l λo=>aQ k 3 l λp=>aQ k 4 l λq=>aQ k 5 l λr=>WH.c m n o p q r l λs t=>bV (λu v=>If u (j none v) (aQ k 0 v λw=>aQ k 1 v λx=>aQ k 2 v λy=>aQ k 3 v λz=>aQ k 4 v λaa=>aQ k 5 v λab=>Xt.c w x y z aa ab v λac ad=>If ac.isNone (j none ad) (Yp [bN] (λae=>ae 0 ad) λaf (ag:Int) ah=>If (ag<((g.len:Nat):Int)) (Ix g.a g.len ag 8 λai=>aQ ai 0 ah λaj=>aQ ai 1 ah λak=>aQ ai 2 ah λal=>aQ ai 3 ah λam=>aQ ai 4 ah λan=>aQ ai 5 ah λao=>aQ ai 6 ah λap=>bC ai 7 ah λaq=>WZ.c ac aj ak al am an ao ap aq ah λar au=>bL (ag+1) λav=>af av au) (j ac ah)))) λaw=>If s (aw true t) (Xp.c g h t λax ay=>aw ax ay)
theorem XJ.o {a b c d e f g h i j}(k:XJ.v a b c d e f g h i j):XJ.c a b c d e f g h i j:=Wa Tryz.func11 (x:=XJ.h) (R0 k)
def Xp.h:Hn:=.q .o1 (.q .o5 .l)
def Xp.v (a:Sl)(b:Int)(c:Hp)(d:aO):Prop:=d (decide (((a.len:Nat):Int)>b)) c
theorem Xp.o {a b c d}(e:Xp.v a b c d):Xp.c a b c d:=Wa Tryz.func12 (x:=Xp.h) (R0 e)
def WG.h:Hn:=.q .o1 (.q .o2 (.q (.q .o2 .aK) (.q .o7 (.q (.q (.cR (.seq [.op,.op,.op,.cU false 2 [.op,.op]])) .aK) (.q .o7 (.q (.q (.cR (.seq [.op,.op,.op,.cU false 2 [.op,.op],.op,.cU false 3 (RI.ops 3)])) .aK) (.q .o8 (.q (.q (.cR (.seq [.op,.op,.op,.cU false 4 (RI.ops 4),.op,.cU false 4 (RI.ops 4),.op,.cU false 3 (RI.ops 3)])) .aK) (.q .o6 (.q (.cR (.seq [.op,.op,.op,.cU true 2 [.op,.op],.op,.cU true 4 (RI.ops 4),.op,.cU true 4 (RI.ops 4),.op])) .l))))))))))
def WG.v (a:Hp)(b:aO):Prop:=Xq.c a λc d=>If c.isNone (b false d) (Qu.c c d λe f g=>bV (λh i=>If h (b false i) (W8.c e 0 24 8 i λj k l=>bV (λm n=>bV (λo p=>If o (b false p) (Xz.c e j p λq r s=>bV (λt u=>bV (λv w=>bV (λx y=>If x (b false y) (W3.c e 4128 7 y λz aa=>W3.c e 4136 7 aa λab ac=>bV (λad ae=>bV (λaf ag=>bV (λah ai=>b ah ai) λaj=>If af (Xh.c e 0 j ag λak al=>aj (ak==9) al) (aj false ag)) λam=>If ad (Xh.c e 0 j ae λan ao=>am (an==0) ao) (am false ae)) λap=>If (z==0) (ap (ab==7) ac) (ap false ac))) λaq=>If v (aq true w) (Xd.c c 4136 (-4137) w λar au=>aq (ar != 0) au)) λav=>If t (av true u) (Xh.c e 0 j u λaw ax=>av (aw != 10) ax)) λay=>If (r != 0) (ay true s) (aV #[.I 4136] 3 s λaz a0=>XL.c q ⟨some az,1,1⟩ a0 λa1 a2=>ay (!a1) a2))) λa3=>If m (a3 true n) (Xd.c c 4136 5 n λa4 a5=>a3 (a4 != 0) a5)) λa6=>If (j != 4112) (a6 true l) (a6 (k != 0) l))) λa7=>If (f != 0) (a7 true g) (a7 e.isNone g))
theorem WG.o {a b}(c:WG.v a b):WG.c a b:=Wa Tryz.func13 (x:=WG.h) (R0 c)
def XW.h:Hn:=.q .o2 (.q (.q (.cR (.seq [.op,.op,.op,.op,.cU false 3 (RI.ops 3)])) (.c (.q .o3 .l) .l)) (.q (.oq 12) .l))
def XW.v (a:Sl)(b c d e f g h:Int)(i:ByteArray)(j:Hp)(k:aN):Prop:=aV #[.I b,.I c,.I d,.I e,.I f,.I g,.I h,.string i] 44 j λl m=>aQ l 4 m λn=>bV (λo p=>If o (aQ l 5 p λq=>k q p) (aQ l 4 p λr=>Nz ((a.len:Nat):Int) <| Ix a.a a.len (r.tmod ((a.len:Nat):Int)) 1 λs=>bM s p λt=>aQ l 5 p λu=>bL (t+u) λv=>k v p)) λw=>If (n<0) (w true m) (w (((a.len:Nat):Int)==0) m)
theorem XW.o {a b c d e f g h i j k}(l:XW.v a b c d e f g h i j k):XW.c a b c d e f g h i j k:=Wa Tryz.func18 (x:=XW.h) (R0 l)
def WZ.h:Hn:=.q .o2 (.q (.cR (.tail 5 (RI.ops 5) [.op,.op])) (.q (.q .o2 (.k (.q .o2 (.c (.q (.cR (.held true [10] (.tk [0,1,2,3,4,5,6,7,8,9] (.all [(10,.tk [11,12,13,14,15] (.done))])))) (.q (.q .o2 (.c (.q (.o 11) (.cR (.held true [15] (.tk [0,1,2,3,4,5,6,7,8,9,10] (.all [(11,.all [(12,.take 13 (.take 14 (.all [(15,.done)])))])]))))) .l)) .aL)) (.kr [(69,.one .b)] (.q .o2 (.c .l .o2)) (.c (.q (.cR (.tail 7 (RI.ops 7) [.op,.op])) (.q (.q .o2 (.c (.q .o1 (.q (.q .o1 (.k (.loop [(9,.one .s),(10,.I)] (.q (.q .o7 (.c .l .l)) (.q (.k (.q .gQ (.c (.o 11) .l))) .o3))))) .o5)) .l)) .aL)) (.q .o2 (.c (.q (.o 11) .aL) (.q .o2 (.c .o5 (.q .o2 (.c (.q (.o 11) .aL) (.q .o2 (.c (.q (.cR (.tail 7 (RI.ops 7) [.op,.op])) .l) (.q .o2 (.c (.q (.o 12) .aL) .l)))))))))))))))) .aM))
def WZ.v (a:R2)(b c d e f g h:Int)(i:ByteArray)(j:Hp)(k:aN):Prop:=aV #[.I b,.I c,.I d,.I e,.I f,.I g,.I h,.string i] 44 j λl m=>bE a 1 m λo=>aQ l 0 m λp=>aQ l 1 m λq=>aQ l 2 m λr=>aQ l 3 m λs=>aQ l 4 m λt=>aQ l 5 m λu=>aQ l 6 m λv=>bC l 7 m λw=>XW.c o p q r s t u v w m λx y=>aQ l 0 y λz=>If (z==20) (eO y λaa=>bU a λab=>aU aa ab 0 λac=>aS aa l 1 λad=>aS aa l 2 λae=>aS aa l 3 λaf=>W8.c ac ad ae af y λag ah ai=>If (ah==0) (bE a 1 ai λak=>aV #[.I ag] 3 ai λal am=>App ak 1 8 3 [.I 0] ⟨some al,1,1⟩ am λan ao=>bU a λap=>aR ap 1 (.slice an.a an.len an.cap) ao λaq=>eO aq λar=>bU a λau=>aT ar au 2 λav=>aS ar l 2 λaw=>aS ar l 3 λax=>aV #[.I ag,.I aw,.I ax] 60 aq λay az=>And (ar az) <| App av 3 24 60 [.I 0,.I 0,.I 0] ⟨some ay,1,1⟩ az λa0 a1=>And (ar a1) <| bU a λa2=>aR a2 2 (.slice a0.a a0.len a0.cap) a1 λa3=>k ah a3) (k ah ai)) (Jn [.b] (λ(a4:Bool) a5=>If a4 (bF a 0 a5 λa7=>aQ l 1 a5 λa8=>Xh.c a7 a8 x a5 λa9 ba=>If (a9==0) (Yp [.s,bN] (λbb=>bb ⟨none,0,0⟩ 0 ba) λbc (bd:Sl) (be:Int) bf=>bE a 2 bf λbh=>
 If (be<((bh.len:Nat):Int)) (bE a 2 bf λbj=>Ix bj.a bj.len be 3 λbk=>aQ bk 0 bf λbl=>If (bl != x) (bE a 2 bf λbn=>Ix bn.a bn.len be 3 λbo=>aQ bo 0 bf λbp=>aQ bo 1 bf λbq=>aQ bo 2 bf λbr=>aV #[.I bp,.I bq,.I br] 60 bf λbs bt=>App bd 3 24 60 [.I 0,.I 0,.I 0] ⟨some bs,1,1⟩ bt λbu bv=>bL (be+1) λbw=>bc bu bw bv) (bL (be+1) λbx=>bc bd bx bf)) (bU a λbz=>aR bz 2 (.slice bd.a bd.len bd.cap) bf λb0=>k a9 b0)) (k a9 ba)) (If (z==23) (bF a 0 a5 λb2=>Xz.c b2 x a5 λb3 b4 b5=>k b4 b5) (If (z==24) (bF a 0 a5 λb7=>Yl.c b7 a5 λb8 b9=>k 0 b9) (If (z==25) (bF a 0 a5 λcb=>Xy.c cb x a5 λcc cd ce=>k cd ce) (If (z==26) (bF a 0 a5 λcg=>aQ l 6 a5 λch=>W3.c cg x ch a5 λci cj=>k ci cj) (If (z==27) (bF a 0 a5 λcl=>YH.c cl x a5 λcm cn co cp cq cr=>aV #[.I 0,.I 0,.I 0,.I 0] 52 cr λcs ct=>aR cs 0 (.I cm) ct λcu=>aR cs 1 (.I cn) cu λcv=>aR cs 2 (.I co) cv λcw=>aR cs 3 (.I cp) cw λcx=>k cq cx) (k 0 a5))))))) λcy=>If (z==21) (cy (z==21) y) (cy (z==22) y))
theorem WZ.o {a b c d e f g h i j k}(l:WZ.v a b c d e f g h i j k):WZ.c a b c d e f g h i j k:=Wa Tryz.func19 (x:=WZ.h) (R0 l)
def Xq.h:Hn:=.q .o1 (.q .o4 .l)
def Xq.v (a:Hp)(b:Option Addr->Hp->Prop):Prop:=Wv.c 8 64 1 1 1024 2 a λc d=>b c d
theorem Xq.o {a b}(c:Xq.v a b):Xq.c a b:=Wa Tryz.func37 (x:=Xq.h) (R0 c)
def WH.h:Hn:=.q .o2 (.q .o5 .l)
def WH.v (a b c d e f:Int)(g:Hp)(h:aO):Prop:=aV #[.I a,.I b,.I c,.I d,.I e,.I f] 25 g λi j=>bM ((i.add 1).add 0) j λk=>h (decide (k>128)) j
theorem WH.o {a b c d e f g h}(i:WH.v a b c d e f g h):WH.c a b c d e f g h:=Wa Tryz.func38 (x:=WH.h) (R0 i)
def Xt.h:Hn:=.q .o2 (.q .o3 (.q (.q .o2 .aK) (.q .o7 (.q (.q (.cR (.seq [.op,.op,.op,.cU false 2 [.op,.op]])) .aK) (.q .o4 .l)))))
def Xt.v (a b c d e f:Int)(g:Hp)(h:Option Addr->Hp->Prop):Prop:=aV #[.I a,.I b,.I c,.I d,.I e,.I f] 25 g λi j=>aQ i 0 j λk=>aQ i 1 j λl=>aQ i 2 j λm=>aQ i 3 j λn=>aQ i 4 j λo=>aQ i 5 j λp=>Wv.c k l m n o p j λq r=>If q.isNone (h none r) (Qu.c q r λs t u=>bV (λv w=>If v (h none w) (aV #[.pointer s,.slice none 0 0,.slice none 0 0] 37 w λx y=>h (some x) y)) λz=>If (t != 0) (z true u) (z s.isNone u))
theorem Xt.o {a b c d e f g h}(i:Xt.v a b c d e f g h):Xt.c a b c d e f g h:=Wa Tryz.func39 (x:=Xt.h) (R0 i)
def Wv.h:Hn:=.q .o2 (.q .o8 (.q .o9 (.q (.q .o2 .aK) .aL)))
def Wv.v (a b c d e f:Int)(g:Hp)(h:Option Addr->Hp->Prop):Prop:=aV #[.I a,.I b,.I c,.I d,.I e,.I f] 25 g λi j=>aQ i 0 j λk=>WO.c k j λl m n=>bM ((i.add 1).add 0) n λo=>bM ((i.add 1).add 1) n λp=>bM ((i.add 1).add 2) n λq=>bM ((i.add 1).add 3) n λr=>bM ((i.add 1).add 4) n λs=>Kn.c l o p q r s n λt u v=>If (u != 0) (h none v) (h t v)
theorem Wv.o {a b c d e f g h}(i:Wv.v a b c d e f g h):Wv.c a b c d e f g h:=Wa Tryz.func69 (x:=Wv.h) (R0 i)
end Go.Proofs
namespace Go.Ar
open Go Go.Vc Go.Proofs
variable {U w w':Hp}{F P Q:Rg}{L:dH}{H H':Hw}{held:List Pc}{s0:Sp}{t n:Nat}{g:Th}
structure fI where
 kd:Int
 th:Int
 a:Int
 b:Int
 of:Int
 pl:Int
 va:Int
 s:ByteArray
def qi (d:fI):List Value:=[.int .i64 d.kd,.int .i64 d.th,.int .i64 d.a,.int .i64 d.b,.int .i64 d.of,.int .i64 d.pl,.int .i64 d.va,.string d.s]
def mr (x:Int):Prop:=-9223372036854775808<=x/\x<=9223372036854775807
structure lA (d:fI):Prop where
 a:mr d.a
 b:mr d.b
 pl:mr d.pl
 va:mr d.va
structure iO (U:Hp) (sl:Sl) (ds:List fI):Prop where
 len:sl.len=ds.length
 at_:∀(i:Nat) (d:fI),ds[i]?=some d->∃b o,sl.a=some ⟨b,o,none⟩/\b<U.size/\∀(j:Nat) v,(qi d)[j]?=some v->cell U ⟨b,o+i*8+j,none⟩=some v
 i:∀d∈ds,lA d
 wX:ds.length<=9223372036854775807
theorem iO.bO {sl:Sl}{ds:List fI}(h:iO U sl ds)(e:bK U w):iO w sl ds:=⟨h.len,λi d g=>by
 obtain⟨b,o,m,p,r⟩:=h.at_ i d g;exact⟨b,o,m,by have:=e.1;omega,λj v a=>by rw[Q3 e p id];exact r j v a⟩,h.i,h.wX⟩
theorem iO.rd {sl:Sl}{ds:List fI}(h:iO U sl ds)(e:bK U w){i:Nat}{d:fI}(hx:ds[i]?=some d){K:Addr->Prop}(hK:∀b o,(∀w',bK U w'->∀(j:Nat) v,(qi d)[j]?=some v->cell w' ⟨b,o+j,none⟩=some v)->K ⟨b,o,none⟩):Ix sl.a sl.len (i:Int) 8 K:=by
 obtain⟨b,o,p,r,u⟩:=h.at_ i d hx;have x:=(cW.1 hx).1;have g:=h.len;rw[p];refine ix O O ?_;rw[add_lit,dE];exact hK b _ λw' s j v m=>by rw[Q3 s r id];exact u j v m
theorem su {b o i:Nat}{h:Hp}{x:ByteArray}{K:ByteArray->Prop}(hc:cell h ⟨b,o+i,none⟩=some (.string x))(hK:K x):wg (Addr.add ⟨b,o,none⟩ i) h K:=⟨x,by rw[add_lit];exact hc,hK⟩
theorem _root_.Go.Vc.bY.rT {b o i:Nat}{cs:List Value}(hb:bY U b cs){x:ByteArray}{K:ByteArray->Prop}(hc:cs[o+i]?=some (.string x))(hK:K x):wg (Addr.add ⟨b,o,none⟩ i) U K:=⟨x,by rw[add_lit,hb.cell];exact hc,hK⟩
def nQ (ad:List Int)(d:fI):Int:=if d.of<0\/ad=[]then d.pl else IntKind.i64.wrap (ad.getD (d.of.toNat%ad.length) 0+d.pl)
theorem JI {ad:List Int}{d:fI}(h:lA d):mr (nQ ad d):=by
 unfold nQ;split
 ·exact h.pl
 ·exact Ld _
theorem Cq {addrs:Sl}{ad:List Int}(hs:cX addrs 1 (Wo ad) U F)(d:fI){R:aN}(hR:∀σ',bK U σ'->R (nQ ad d) σ'):XW.c addrs d.kd d.th d.a d.b d.of d.pl d.va d.s U R:=by
 refine XW.o ?_;unfold XW.v;have y:addrs.len=ad.length:=by have:=hs.1;simp[Wo]at this;omega
 refine nw (cs:=qi d) λv D e j=>j.rI rfl (Q8 (λr w=>w=v/\r=decide (d.of<0\/ad=[])) (λr w ⟨B,u⟩=>?_) λJ x=>cQ (λm=>x _ _ ⟨rfl,by rw[zJ (.inl m)]⟩) λm=>x _ _ ⟨rfl,?_⟩)
 ·subst B;have g:=hR w e;by_cases hc:d.of<0\/ad=[]
  ·refine cD (by rw[u];exact zJ hc) (j.rI rfl ?_);unfold nQ at g;rw[zC hc]at g;exact g
  ·have i:0<ad.length:=pf.2 λh=>hc (.inr h);refine cB (by rw[u];exact zM hc) (j.rI rfl (nz O ?_));have z:0<=d.of:=by omega
   have C:d.of.tmod (addrs.len:Int)=((d.of.toNat%ad.length:Nat):Int):=by
    rw[Qm z,y,Int.natCast_emod,Int.toNat_of_nonneg z]
   rw[C];have p:d.of.toNat%ad.length<ad.length:=tZ _ i;have A:ad[d.of.toNat%ad.length]?=some ad[d.of.toNat%ad.length]:=cV p;refine(cX.loc _ _ _ |>.bO (aH.cut hs) e).nr A (j.rI rfl (xp ?_));unfold nQ at g;rw[zB hc,zO,A]at g;exact g
 ·rw[y];rw[lO];simp only[zS,zU];constructor
  ·intro h;exact .inr (vQ.1 O)
  ·rintro(h|h)
   ·exact(m h).elim
   ·rw[h];rfl
theorem FC {l:Sl}{most:Int}{R:aO}(hR:R (decide ((l.len:Int)>most)) U):Xp.c l most U R:=by
 refine Xp.o ?_;unfold Xp.v;exact hR
theorem PZ {xs:List (Int×Int×Int)}(h:Qd xs=true):(xs.map ZY).map mi=xs:=by
 rw[k8]
 conv=>rhs;rw[←uY xs]
 apply ko;intro t ht;obtain⟨i,g⟩:=zQ ht;have:=((Z8 xs).1 h).2.2.1 i t g;obtain⟨c,_,a,b,e,d⟩:=Gk this;simp only[Function.comp,id];rw[show ZY t=c from a];unfold mi;rw[←b,←e,←d]
theorem RF {xs:List (Int×Int×Int)}(h:Qd xs=true):(xs.map ZY).length<=40/\∀c∈xs.map ZY,c.ok:=by
 refine⟨by have:=((Z8 xs).1 h).2.1;simpa using this,λc g=>?_⟩;obtain⟨t,e,rfl⟩:=zE.1 g;obtain⟨i,d⟩:=zQ e;have:=((Z8 xs).1 h).2.2.1 i t d;obtain⟨c,a,b,_⟩:=Gk this;rw[show ZY t=c from b];exact a
structure sH (H:Hw) (aF:Int):Prop where
 hi:HI H [] (KY H.cf.aF)
 cf:kR H
 pg:(H.cf.aF:Int)=aF
 live:H.live=[]
 ph:∀g∈H.bQ,g.ph=none
 th:1<=H.cf.threads
theorem DY {xs:List (Int×Int×Int)}{p a t b r:Int}(h:Qd xs=true)(hc:rh p a t b r=true):sH (Vy (xs.map ZY) ⟨p.toNat,a.toNat,t.toNat,b.toNat,r.toNat⟩) p:=by
 obtain⟨⟨m,y,s⟩,⟨j,u⟩,⟨w,x⟩,_⟩:=(D4 p a t b r).1 hc;obtain⟨d,e⟩:=RF h;refine⟨Sa (cf:=⟨p.toNat,a.toNat,t.toNat,b.toNat,r.toNat⟩) aC aC aC aC d e,⟨by simp only[Vy];omega,by simp[Vy],?_⟩,by simp only[Vy];omega,rfl,λg i=>by rw[Av i],by simp only[Vy];omega⟩;show Qd ((xs.map ZY).map mi)=true;rw[PZ h];exact h
theorem Oe (g:Gl U)(gd:Gd U)(b b1 b2 b3 b4 b5:Int){R:Option Addr->Hp->Prop}(h0:∀σ',bK U σ'->R none σ')
 (h1:∀σ' L N H,bK U σ'->U.size<=N->N<=σ'.size->HH σ' (λb=>N<=b) L H->sH H b1->R (some ⟨L.p,0,none⟩) σ'):Wv.c b b1 b2 b3 b4 b5 U R:=by
 refine Wv.o ?_;unfold Wv.v;refine nw (cs:=[.int .i64 b,.int .i64 b1,.int .i64 b2,.int .i64 b3,.int .i64 b4,.int .i64 b5]) λv E e j=>j.rI rfl ?_;by_cases hw:2<=b/\b<=16
 ·refine BY b hw.1 hw.2 λs B e1 w=>?_;have a:=e1.bT j id;have d:=e.trans e1;have m:Qd (qy b)=true:=by
   have:=Hv b.toNat O O;rw[show((b.toNat:Nat):Int)=b by omega]at this;exact this
  refine a.eZ rfl (a.eZ rfl (a.eZ rfl (a.eZ rfl (a.eZ rfl ?_))));refine AZ w (g.bO d) (gd.bO d) b1 b2 b3 b4 b5 (λu=>by rw[m]at u;cases u) (λ_ A r e2=>?_) λ_ A r L e2 C=>?_
  ·exact cD rfl (h0 r (d.trans e2))
  ·exact cB rfl (h1 r L B.size _ (d.trans e2) d.1 e2.1 C (DY m A))
 ·refine Mi b O (j.eZ rfl (j.eZ rfl (j.eZ rfl (j.eZ rfl (j.eZ rfl ?_)))));have w:ic v ⟨none,0,0⟩ []:=⟨rfl,λi x y z D=>by simp at D⟩;refine AZ w (g.bO e) (gd.bO e) b1 b2 b3 b4 b5 (λ_ r e2=>cD rfl (h0 r (e.trans e2))) (λm=>?_) λm=>?_
  ·exact absurd m aB
  ·exact absurd m aB
def Safe (H:Hw)(d:fI)(x:Int)(e:Int×Bk):Prop:=(∀j,fN H j≠some (.find e.1))/\¬((d.kd=3\/d.kd=1\/d.kd=6)/\e.1<=x/\x<e.1+e.2.2.1)
structure pO (H:Hw) (d:fI) (x:Int) (H':Hw):Prop where
 hi:∃held s0,HI H' held s0
 kp:Qr H' H
 fx:∀e∈H.live,Safe H d x e->e∈H'.live/\(∀w:Nat,e.1<=((8*w:Nat):Int)->((8*w:Nat):Int)<e.1+e.2.2.1->H'.sp.wd w=H.sp.wd w)/\∀j,fN H' j≠some (.find e.1)
theorem pO.op (h:HI H held s0){d:fI}{x:Int}(o:fY H H')(hl:∀e∈H.live,Safe H d x e->e∈H'.live):pO H d x H':=
 ⟨o.hi,o.kp,λe a b=>⟨hl e a b,h.kl o.ks e a,λj=>by rw[o.ph];exact b.1 j⟩⟩
theorem pO.ar {d:fI}{x:Int}(o:mn H H'):pO H d x H':=
 ⟨o.hi,o.kp,λe a b=>⟨by rw[o.live];exact a,o.kl e a,λj=>by unfold fN;rw[o.bQ];exact b.1 j⟩⟩
theorem HI.rJ (h:HI H held s0){e:Int×Bk}(he:e∈H.live):8<=e.2.2.1/\0<=e.1/\e.1%8=0/\e.2.2.1%8=0/\e.1+e.2.2.1<=270000:=by
 obtain⟨_,p,d,B,C,E,K,_⟩:=h.lv e he;have z:=h.ye.size_pos d;have D:=h.ye.jC d;obtain⟨A,x,hd⟩:=h.ye.hf p d;have G:p.addr%8=0:=by
  rcases hd with⟨_,_,r,hr,c2,c3⟩|⟨j,c,c1,c2,c3,c4,_⟩
  ·omega
  ·obtain⟨a,u,b,y⟩:=c4;have:a=c:=Option.some.inj (b.1.symm.trans c2);subst this;have m:=(h.ye.ga _ A x).cE j a u b;obtain⟨l,s,i,J,F,e,_⟩:=(Vq m).1 y;have g:=m.ok;unfold bZ.ok at g;unfold at_ at e;have w:a.size=8*(a.size/8):=by omega
   have:i*a.size=8*(i*(a.size/8)):=by rw[Nat.mul_left_comm,←w]
   omega
 omega
theorem pO.free (h:HI H held s0){d:fI}{x thread e:Int}(hd:d.kd=1)(o:fY H H')(hf:oS H thread x H' e):pO H d x H':=by
 refine pO.op h o λm a g=>?_;have i:=h.rJ a;rcases hf with⟨_,h2,_⟩|⟨_,_,_,h4⟩|⟨_,b,_,_,h4⟩
 ·rw[h2];exact a
 ·rw[h4];exact a
 ·rw[h4];refine Gg.2 ⟨a,λj=>g.2 ⟨.inr (.inl hd),O,O⟩⟩
theorem pO.step (h:HI H held s0){d:fI}{x:Int}(hg:H.bQ[t]?=some g){p:Ph}(hp:g.ph=some p):pO H d x (Qq H t p):=by
 have K:=(cW.1 hg).1;have s:=h.Jo hg hp;have C:fN H t=some p:=by unfold fN;rw[hg];exact hp
 have live:∀e∈H.live,p≠.find e.1->e∈(Qq H t p).live:=λe i B=>by
  by_cases hf:kY p
  ·obtain⟨_,_,_,J,m⟩:=qt h hg hp hf;by_cases u:∃y,p=.find y
   ·obtain⟨y,rfl⟩:=u;cases hm:bW H.live y with
    | none=>rw[((m y rfl).1 hm).2.2];exact i
    | some b=>
     rw[((m y rfl).2 b hm).2];exact Gg.2 ⟨i,λa=>B (by rw[a])⟩
   ·rw[(J λy a=>u ⟨y,a⟩).2];exact i
  ·obtain⟨cl,G,z⟩:=Be h hg hp hf;obtain⟨_,r⟩:=qn h hg hp z;rcases r with⟨_,_,_,e2,_⟩|⟨_,_,_,e4⟩|⟨_,_,e3,e4⟩
   ·rw[e2];exact i
   ·rw[e4];exact i
   ·rw[e4];exact(Gn e3).2 (.inl i)
 have w:∀y,(Wt H t p).2.1≠some (.find y):=λy a=>by
  by_cases hf:kY p
  ·obtain⟨_,_,r,_⟩:=qt h hg hp hf;rcases r with⟨p',A,e1,_,e3,_⟩|e1
   ·rw[e1]at a;exact e3 y (Option.some.inj a)
   ·rw[e1]at a;cases a
  ·obtain⟨cl,G,z⟩:=Be h hg hp hf;obtain⟨_,r⟩:=qn h hg hp z;rcases r with⟨p',A,e1,_,_,e4,_⟩|⟨e1,_⟩|⟨e1,_⟩
   ·rw[e1]at a;cases a;exact e4.elim
   ·rw[e1]at a;cases a
   ·rw[e1]at a;cases a
 refine⟨s.hi,Ui H t p,λe i F=>⟨live e i λu=>F.1 t (by rw[C,u]),h.kl s.ks e i,λj=>?_⟩⟩;by_cases hj:j=t
 ·subst hj;obtain⟨A,D,E⟩:=UZ (p:=p) K;unfold fN;rw[D];show A.ph≠_;rw[E];exact w _
 ·unfold fN;rw[Uc p hj];exact F.1 j
end Go.Ar
namespace Go.Ar
open Go Go.Vc Go.Proofs
variable {U w w':Hp}{F P Q X:Rg}{L:dH}{H H':Hw}{held:List Pc}{s0:Sp}{t n:Nat}{g:Th}
structure gV (σ0 U:Hp) (L:dH) (H:Hw) (held:List Pc) (s0:Sp) (P Q:Rg) (addrs:Sl) (ad:List Int):Prop where
 e:bK σ0 U
 h:HH U P L H
 hi:HI H held s0
 cf:kR H
 pg:H.cf.aF<=128
 pP:∀b,P b->σ0.size<=b/\b<U.size
 pQ:∀b,Q b->σ0.size<=b/\b<U.size/\¬P b
 row:bS addrs 1 (Wo ad) U Q
 al:ad.length<=60
 g0:iS (λb=>σ0.size<=b)/\¬σ0.size<=1
variable {σ0:Hp}{addrs:Sl}{ad:List Int}
theorem gV.step (p:gV σ0 U L H held s0 P Q addrs ad){ts':List eJ}(e:Ext P U w)(h':HH w (Grow P U) {L with ts:=ts'} H'){held':List Pc}{s0':Sp}(hi':HI H' held' s0')(k:Qr H' H) :
 gV σ0 w {L with ts:=ts'} H' held' s0' (Cut (Grow P U) w) Q addrs ad:=by
 have r:=e.1;refine⟨Ext.dV p.e e λb a=>.inr (p.pP b a).1,h'.cut,hi',p.cf.bR k,by rw[k.2.1];exact p.pg,λb a=>⟨?_,a.2⟩,λb a=>?_,aI.bR p.row e λb _ m d=>(p.pQ b m).2.2 d,p.al,p.g0⟩
 ·have:=p.e.1;rcases a.1 with h1|h1
  ·exact(p.pP b h1).1
  ·omega
 ·obtain⟨i,s,j⟩:=p.pQ b a;exact⟨i,O,λg=>by
   rcases g.1 with h1|h1
   ·exact j h1
   ·omega⟩
theorem gV.out (p:gV σ0 U L H held s0 P Q addrs ad){T:Rg}(e:Ext T U w)(hT:∀b,b<U.size->T b->¬P b/\¬Q b/\σ0.size<=b):gV σ0 w L H held s0 P Q addrs ad:=by
 have r:=e.1;have g:Ext (λb=>T b/\b<U.size) U w:=⟨e.1,λb a j=>e.2 b a λd=>j ⟨d,a⟩⟩;refine⟨Ext.dV p.e g λb a=>.inr (hT b a.2 a.1).2.2,p.h.bR g (λb a i d=>(hT b a d.1).1 i) (λb a=>?_) (λa=>?_),p.hi,p.cf,p.pg,λb a=>⟨(p.pP b a).1,by have:=(p.pP b a).2;omega⟩,λb a=>⟨(p.pQ b a).1,by have:=(p.pQ b a).2.1;omega,(p.pQ b a).2.2⟩,aI.bR p.row g λb a m d=>(hT b a d.1).2.1 m,p.al,p.g0⟩
 ·exact p.g0.1 b (hT b a.2 a.1).2.2
 ·exact p.g0.2 (hT _ a.2 a.1).2.2
theorem Ds (hr:bS addrs 1 (Wo ad) U Q)(hl:ad.length<=1000000)(x:Int){e t:Nat}{K:Sl->Hp->Prop}(hK:∀s' w,Ext Q U w->bS s' 1 (Wo (ad++[x])) w (λb=>Q b\/U.size<=b/\b<w.size)->K s' w) :
 Nw (.cells #[.int .i64 x] t (0,0)) U λn v=>App addrs 1 8 e [.int .i64 0] ⟨some n,1,1⟩ v K:=by
 have i:addrs.len=ad.length:=by have:=hr.1;simp[Wo]at this;omega
 refine bS.push (F:=λb=>Q b\/U.size<=b) (vs:=[.int .i64 x]) (aI.mono hr λb _ a=>.inl a) (λb a=>.inr a) rfl rfl (by simp[dQ]) O O λs' w m g j=>hK s' w ⟨g.1,λb a p=>g.2 b a λd=>d.elim p λd=>O⟩ ?_;have:Wo (ad++[x])=Wo ad++[.int .i64 x]:=by simp[Wo]
 rw[this];refine aI.mono (aI.cut j) λb a d=>?_;rcases d.1 with h1|h1
 ·exact .inl h1
 ·exact .inr ⟨h1,a⟩
end Go.Ar
namespace Go.Ar
open Go.Vc (bW dB cS)
def i63 (x:Int):Bool:=decide (x<=9223372036854775807)
def py (H:Hw)(t:Nat):Ph->Bool
 | .take k=>decide (k<H.tb.length)&&(match QX (H.cls k) ((H.jK t).li k)with
  | (some y,_)=>i63 y
  | (none,_)=>true)
 | .cH k _=>decide (k<H.tb.length)&&(ZV (H.eA t) (k:Int) != 0 || !(Ys (H.eA t) (k:Int)).isEmpty)
 | .cJ _ _=>true
 | .grow _ _=>true
 | .fill=>match (H.jK t).bP with
  | (k,x::xs)::_=>decide (k<H.tb.length)&&(i63 x&&decide (((H.jK t).li k).os.length+xs.length<=256))
  | _=>false
 | .eI m=>decide (ZT (H.eA t) H.sp (m:Int) 1<=1000000)
 | .find x=>i63 x&&((bW H.live x).isSome&&decide (0<=x))
 | .put k _=>decide (k<H.tb.length) && !(H.jK t).bP.isEmpty
 | .back=>match (H.jK t).bP with
  | (_,xs)::_=>(xs.all λx=>i63 x&&decide (0<=XP H.bX x))&&decide (xs.length<=1000000)
  | _=>false
 | .dD _ a=>decide (0<=a)&&(decide (a.toNat<H.bX.length)&&H.bX.all λA=>A.runs.all λr=>decide (r.1<=1000000))
 | .drain=>true
theorem xS {x:Int}(h:i63 x=true):iC x:=by
 unfold i63 at h;unfold iC;exact rH h
theorem NR {H:Hw}{t:Nat}{p:Ph}(h:py H t p=true):uj H t p:=by
 cases p with
 | take k=>
  simp only[py,zF,zU]at h;refine⟨h.1,λy l i=>?_⟩;have e:=h.2;rw[i]at e;exact xS e
 | cH k w=>
  simp only[py,zF,zU,nm]at h;refine⟨h.1,λj d=>?_⟩;rw[j,d]at h;simp at h
 | cJ k w=>trivial
 | grow k w=>trivial
 | fill=>
  simp only[py]at h;split at h
  ·rename_i k x xs r hh;simp only[zF,zU]at h;exact⟨k,x,xs,r,hh,h.1,xS h.2.1,h.2.2⟩
  ·cases h
 | eI m=>
  simp only[py,zU]at h;exact h
 | find x=>
  simp only[py,zF,zU]at h;exact⟨xS h.1,λu=>by rw[u]at h;simp at h,λb _=>h.2.2⟩
 | put k x=>
  simp only[py,zF,zU]at h;exact⟨h.1,λd=>by rw[d]at h;simp at h⟩
 | back=>
  simp only[py]at h;split at h
  ·rename_i k xs r hh;simp only[zF,zU,jW]at h;exact⟨k,xs,r,hh,λx g=>⟨xS (h.1 x g).1,(h.1 x g).2⟩,h.2⟩
  ·cases h
 | dD s a=>
  simp only[py,zF,zU,jW]at h;exact⟨h.1,h.2.1,h.2.2⟩
 | drain=>trivial
def nR:Nat->Hw->Nat->Ph->Option (Hw×Int×Int)
 | 0,_,_,_=>none
 | n+1,H,t,p=>if py H t p&&decide ((H.jK t).bP.length<=900)then(match (Wt H t p).2.1 with
  | none=>some (Qq H t p,(Wt H t p).2.2.1,(Wt H t p).2.2.2)
  | some p'=>nR n (Qq H t p) t p')else none
theorem FV:∀{n:Nat} {H:Hw} {t:Nat} {p:Ph} {r:Hw×Int×Int},nR n H t p=some r->∃m,iy m H t p r.1 r.2.1 r.2.2
 | 0,_,_,_,_,h=>by simp[nR]at h
 | n+1,H,t,p,r,h=>by
  rw[nR]at h;split at h
  ·rename_i hc;simp only[zF,zU]at hc;have hok:tP H t p:=⟨NR hc.1,λg b=>by rw[←HT b];exact hc.2⟩;split at h
   ·rename_i hn;cases h;exact⟨1,.done hok hn⟩
   ·rename_i p' hs;obtain⟨m,a⟩:=FV h;exact⟨m+1,.next hok hs a⟩
  ·cases h
def xg (H:Hw)(thread kind size align addr:Int):Option (Hw×Int×Int):=match Kc H thread kind size align addr with
 | .inl e=>if e=0 then none else some (H,0,e)
 | .inr (t,p)=>nR 40 (eN H t (some p)) t p
theorem Je {H:Hw}{thread kind size align addr:Int}{r:Hw×Int×Int}(h:xg H thread kind size align addr=some r):Ua H thread kind size align addr r.1 r.2.1 r.2.2:=by
 unfold xg at h;split at h
 ·rename_i e he;split at h
  ·cases h
  ·rename_i hne;cases h;exact .inl ⟨he,hne,rfl,rfl⟩
 ·rename_i t p he;obtain⟨m,a⟩:=FV h;exact .inr ⟨t,p,m,he,a⟩
def Fk:List bZ:=(qy 8).map ZY
def w0:Hw:=Vy Fk ⟨64,1,1,1024,2⟩
theorem wC:Vy ((qy 8).map ZY) ⟨(64:Int).toNat,(1:Int).toNat,(1:Int).toNat,(1024:Int).toNat,(2:Int).toNat⟩=w0:=rfl
end Go.Ar
namespace Go.Ar
open Go Go.Vc Go.Proofs
variable {U u u':Hp}{F:Rg}{L:dH}{H H':Hw}{N:Nat}
attribute [local irreducible] w0 Fk
theorem M9 (g:Gl U)(gd:Gd U){R:Option Addr->Hp->Prop}(hR:∀σ' L N,bK U σ'->U.size<=N->N<=σ'.size->HH σ' (λb=>N<=b) L w0->R (some ⟨L.p,0,none⟩) σ'):Xq.c U R:=by
 refine Xq.o ?_;unfold Xq.v;refine Wv.o ?_;unfold Wv.v;refine nw (cs:=[.int .i64 8,.int .i64 64,.int .i64 1,.int .i64 1,.int .i64 1024,.int .i64 2]) λv y e m=>m.rI rfl ?_;refine BY 8 aB aB λs r e1 u=>?_;have a:=e1.bT m id;have d:=e.trans e1;refine a.eZ rfl (a.eZ rfl (a.eZ rfl (a.eZ rfl (a.eZ rfl ?_))));refine AZ u (g.bO d) (gd.bO d) 64 1 1 1024 2 (λj=>?_) (λ_ w=>?_) λ_ _ x L e2 i=>?_
 ·have:=Hv 8 aB aB;rw[show((8:Nat):Int)=8 from rfl]at this;rw[this]at j;cases j
 ·exact absurd w aB
 ·rw[wC]at i;exact cB rfl (hR x L r.size (d.trans e2) d.1 e2.1 i)
end Go.Ar
namespace Go.Proofs
open Go.Vc
set_option maxRecDepth 100000
def W8.h:TX:=.nx (.o 3) (.nx (.seq (.o 3) (.cond (.seq (.o 2) (.leaf)) (.leaf))) (.nx (.seq (.cR (.seq [.op,.op,.op,.cU false 2 [.op,.op],.op,.cU false 2 [.op,.op],.op,.cU false 2 [.op,.op],.op,.cU false 5 [.op,.op,.op,.op,.op]])) (.cond (.seq (.o 2) (.leaf)) (.leaf))) (.nx (.o 3) (.nx (.o 5) (.nx (.cR (.held true [] (.take 0 (.take 1 (.take 2 (.take 3 (.take 4 (.take 5 (.take 6 (.take 10 (.all [(7,.take 8 (.take 9 (.all [(11,.take 12 (.take 13 (.take 14 (.take 15 (.take 16 (.done))))))])))]))))))))))) (.nx (.seq (.o 2) (.cond (.seq (.o 3) (.leaf)) (.leaf))) (.nx (.o 8) (.nx (.o 16) (.nx (.o 12) (.r1 (.o 2) bN (.block (.cR (.held true [] (.take 0 (.take 1 (.take 2 (.take 3 (.take 4 (.take 5 (.all [(6,.all [(7,.done)])])))))))))) (.seq (.o 3) (.seq (.cR (.held true [8] (.take 0 (.take 1 (.take 2 (.take 3 (.take 4 (.take 5 (.take 6 (.take 7 (.all [(8,.done)]))))))))))) (.seq (.o 5) (.leaf))))))))))))))
def W8.v (a:R2)(b c d:Int)(e:Hp)(f:Int->Int->Hp->Prop):Prop:=aV #[.pointer a] 33 e λg h=>fU g h λi=>WU.c i h λj k=>If (!j) (f 0 5 k) (bV (λl m=>bV (λn o=>bV (λp q=>bV (λr s=>If r (f 0 1 s) (aV #[.I 0,.I 0,.I 0,.I 0,.I 0] 95 s λt u=>aR t 0 (.I 0) u λv=>aR t 1 (.I c) v λw=>aR t 2 (.I 0) w λx=>aR t 3 (.I 0) x λy=>aR t 4 (.I 0) y λz=>eO z λaa=>gD aa .p g λ(ab:R2)=>bU ab λac=>aU aa ac 0 λad=>aS aa t 0 λae=>aS aa t 1 λaf=>aS aa t 2 λag=>aS aa t 3 λah=>aS aa t 4 λai=>Xk.c ae af ag ah ai z λaj ak=>And (aa ak) <| bL ((if 16>d then 16 else d)+aj) λal=>bL (al+16) λam=>YJ.c ad b am (if 16>d then 16 else d) ak λan ao ap=>And (aa ap) <| If (ao != 0) (f 0 ao ap) (fU g ap λaq=>bD aq 3 ap λau=>bL (au+1) λav=>bU aq λaw=>aR aw 3 (.I av) ap λax=>fU g ax λay=>bD ay 3 ax λa0=>bL (an+(if 16>d then 16 else d)) λa1=>aR t 4 (.I a0) ax λa2=>dX ((t.add 0).add 2) (.I an) a2 λa3=>dX ((t.add 0).add 0) (.I a1) a3 λa4=>fU g a4 λa5=>bF a5 0 a4 λa7=>Xx.c a7 an a4 λa8 a9 ba=>dX ((t.add 0).add 3) (.I a8) ba λbb=>aQ t 0 bb λbc=>aQ t 1 bb λbd=>aQ t 2 bb λbe=>aQ t 3 bb λbf=>aQ t 4 bb λbg=>
 XA.c bc bd be bf bg bb λbh bi=>Bv Tryz.prog (e1 bN) bh bi (λ(bj:Int) bk bl=>eO bl λbm=>gD bm .p g λ(bn:Option Addr)=>bU bn λbo=>aU bm bo 0 λbp=>Zy.c bj bl λbq br=>And (bm br) <| Xd.c bp bj bq br λbs bt=>And (bm bt) <| bk bt) λbu=>fU g bu λbv=>aQ t 0 bu λbw=>aQ t 1 bu λbx=>aQ t 2 bu λbz=>aQ t 3 bu λb0=>aQ t 4 bu λb1=>X2.c bv bw bx bz b0 b1 0 bu λb2=>eO b2 λb3=>gD b3 .p g λ(b4:Option Addr)=>bU b4 λb5=>gD b3 .m (b5.add 1) λ(b6:Option Nat)=>gD b3 bN ((t.add 0).add 0) λ(b7:Int)=>aS b3 t 0 λb8=>aS b3 t 1 λb9=>aS b3 t 2 λca=>aS b3 t 3 λcb=>aS b3 t 4 λcc=>kc .i64 (.ag 5) b6 b7 (b8,b9,ca,cb,cc) b2 λcd=>bM ((t.add 0).add 0) cd λce=>tI bi.size cd λcf=>f ce 0 cf))) λcg=>If p (cg true q) (bL (d-1) λch=>cg ((bits .and .i64 d ch) != 0) q)) λci=>If n (ci true o) (ci (decide (d>256)) o)) λcj=>If l (cj true m) (cj (decide (d<1)) m)) λck=>If (c<1) (ck true k) (ck (decide (c>1024)) k))
theorem W8.o {a b c d e f}(g:W8.v a b c d e f):W8.c a b c d e f:=CN Tryz.func14 (x:=W8.h) (R0 g)
def Xy.h:Hn:=.q .o2 (.q (.q .o4 (.q .o2 (.c (.q .o3 .l) .l))) (.q .gQ .l))
def Xy.v (a:R2)(b:Int)(c:Hp)(d:Int->Int->Hp->Prop):Prop:=X8.c a b c λe f=>If (e != 0) (d 0 e f) (bF a 0 f λh=>YN.c h b f λi j k=>d i j k)
theorem Xy.o {a b c d}(e:Xy.v a b c d):Xy.c a b c d:=Wa Tryz.func16 (x:=Xy.h) (R0 e)
def W3.h:Hn:=.q .o1 (.q (.q .o4 (.q .o2 .aJ)) (.q .o8 .l))
def W3.v (a:R2)(b c:Int)(d:Hp)(e:aN):Prop:=X8.c a b d λf g=>If (f != 0) (e f g) (bF a 0 g λi=>Xd.c i b c g λj k=>e j k)
theorem W3.o {a b c d e}(f:W3.v a b c d e):W3.c a b c d e:=Wa Tryz.func17 (x:=W3.h) (R0 f)
def Xz.h:Hn:=.q .o2 (.q (.q .o3 .aJ) (.q (.o 12) (.q (.q .o2 .aJ) (.q (.q .o3 .aJ) (.q .o5 .l)))))
def Xz.v (a:R2)(b:Int)(c:Hp)(d:Sl->Int->Hp->Prop):Prop:=WU.c a c λe f=>If (!e) (d ⟨none,0,0⟩ 5 f) (bI a 1 f λh=>Lk .i64 (.ag 5) h b f λi=>aV #[.I 0,.I 0,.I 0,.I 0,.I 0] 95 f λj k=>aR j 0 (.I ((i.getD (0,0,0,0,0)).1)) k λl=>aR j 1 (.I ((i.getD (0,0,0,0,0)).2.1)) l λm=>aR j 2 (.I ((i.getD (0,0,0,0,0)).2.2.1)) m λn=>aR j 3 (.I ((i.getD (0,0,0,0,0)).2.2.2.1)) n λo=>aR j 4 (.I ((i.getD (0,0,0,0,0)).2.2.2.2)) o λp=>If (!i.isSome) (d ⟨none,0,0⟩ 8 p) (aQ j 0 p λq=>aQ j 1 p λr=>aQ j 2 p λs=>aQ j 3 p λt=>aQ j 4 p λu=>Xa.c a q r s t u p λv w=>If v (d ⟨none,0,0⟩ 5 w) (aQ j 0 w λx=>aQ j 1 w λy=>aQ j 2 w λz=>aQ j 3 w λaa=>aQ j 4 w λab=>W9.c a x y z aa ab w λac ad=>d ac 0 ad)))
theorem Xz.o {a b c d}(e:Xz.v a b c d):Xz.c a b c d:=Wa Tryz.func21 (x:=Xz.h) (R0 e)
def Yl.h:Hn:=.q .o1 (.q (.q .o3 .aK) (.q .o1 (.q (.q .o5 (.k (.loop [(3,.one .s)] (.q (.cR (.seq [.it .i64 (.ag 5),.op])) (.q (.c .l .l) (.k (.q (.cR (.seq [.it .i64 (.ag 5),.op,.op,.op])) (.q .o4 (.c .o6 .l))))))))) (.q .o2 (.q .o3 .l)))))
def Yl.v (a:R2)(b:Hp)(c:Sl->Hp->Prop):Prop:=WU.c a b λd e=>If (!d) (c ⟨none,0,0⟩ e) (bI a 1 e λg=>nC .i64 (.ag 5) g e λh i=>Yp [.s] (λj=>j ⟨none,0,0⟩ i) λk (l:Sl) m=>nF .i64 (.ag 5) h m (KJ.c l m λn=>WS.c l n λo p=>c o p) (λq r s=>nJ .i64 (.ag 5) h s λt u=>aV #[.I 0,.I 0,.I 0,.I 0,.I 0] 95 s λv w=>aR v 0 (.I u.1) w λx=>aR v 1 (.I u.2.1) x λy=>aR v 2 (.I u.2.2.1) y λz=>aR v 3 (.I u.2.2.2.1) z λaa=>aR v 4 (.I u.2.2.2.2) aa λab=>aQ v 0 ab λac=>aQ v 1 ab λad=>aQ v 2 ab λae=>aQ v 3 ab λaf=>aQ v 4 ab λag=>Xa.c a ac ad ae af ag ab λah ai=>If (!ah) (aQ v 0 ai λaj=>aQ v 1 ai λak=>aQ v 2 ai λal=>aQ v 3 ai λam=>aQ v 4 ai λan=>W9.c a aj ak al am an ai λao ap=>App l 1 8 3 [.I 0] ao ap λaq ar=>k aq ar) (k l ai)))
theorem Yl.o {a b c}(d:Yl.v a b c):Yl.c a b c:=Wa Tryz.func22 (x:=Yl.h) (R0 d)
def YH.h:Hn:=.q .o2 (.q (.q .o3 (.c (.q .o3 .l) .l)) (.q .o9 (.q (.q .o2 (.c (.q .o3 .l) .l)) (.q .o4 .l))))
def YH.v (a:R2)(b:Int)(c:Hp)(d:Int->Int->Int->Int->Int->Hp->Prop):Prop:=aV #[.I 0,.I 0,.I 0,.I 0] 52 c λe f=>WU.c a f λg h=>If (!g) (aR e 0 (.I 0) h λi=>aR e 1 (.I 0) i λj=>aR e 2 (.I 0) j λk=>aR e 3 (.I 0) k λl=>aQ e 0 l λm=>aQ e 1 l λn=>aQ e 2 l λo=>aQ e 3 l λp=>d m n o p 5 l) (YW.c a b ⟨57,#[],#[]⟩ h λq r s t u v w=>aV #[.I 0,.I 0,.I 0,.I 0,.I 0] 95 w λx y=>aR x 0 (.I q) y λz=>aR x 1 (.I r) z λaa=>aR x 2 (.I s) aa λab=>aR x 3 (.I t) ab λac=>aR x 4 (.I u) ac λad=>If (!v) (aR e 0 (.I 0) ad λae=>aR e 1 (.I 0) ae λaf=>aR e 2 (.I 0) af λag=>aR e 3 (.I 0) ag λah=>aQ e 0 ah λai=>aQ e 1 ah λaj=>aQ e 2 ah λak=>aQ e 3 ah λal=>d ai aj ak al 8 ah) (bM ((x.add 0).add 0) ad λam=>bM ((x.add 0).add 1) ad λan=>bM ((x.add 0).add 2) ad λao=>bM ((x.add 0).add 3) ad λap=>aR e 0 (.I am) ad λaq=>aR e 1 (.I an) aq λar=>aR e 2 (.I ao) ar λau=>aR e 3 (.I ap) au λav=>aQ e 0 av λaw=>aQ e 1 av λax=>aQ e 2 av λay=>aQ e 3 av λaz=>d aw ax ay az 0 av))
theorem YH.o {a b c d}(e:YH.v a b c d):YH.c a b c d:=Wa Tryz.func23 (x:=YH.h) (R0 e)
def Xh.h:Hn:=.q .o1 (.q .o5 .l)
def Xh.v (a:R2)(b c:Int)(d:Hp)(e:aN):Prop:=XT.c a b c true d λf g=>e f g
theorem Xh.o {a b c d e}(f:Xh.v a b c d e):Xh.c a b c d e:=Wa Tryz.func29 (x:=Xh.h) (R0 f)
def Qu.h:Hn:=.q .o2 (.q (.q .o3 .aJ) (.q .o7 .l))
def Qu.v (a:R2)(b:Hp)(c:Option Addr->Int->Hp->Prop):Prop:=Qj.c a b λd e=>If (!d) (c none 1 e) (Nw (.map #[] 0) e λf g=>Nw (.map #[] 0) g λh i=>aV #[.pointer a,.map (some f.block),.map (some h.block),.I 0] 74 i λj k=>c (some j) 0 k)
theorem Qu.o {a b c}(d:Qu.v a b c):Qu.c a b c:=Wa Tryz.func33 (x:=Qu.h) (R0 d)
def WU.h:Hn:=.q .o1 (.q (.cR (.seq [.op,.op,.op,.cU true 5 (RI.ops 5),.op])) .l)
def WU.v (a:R2)(b:Hp)(c:aO):Prop:=bV (λd e=>c d e) λf=>If (!a.isNone) (bF a 0 b λh=>f (!h.isNone) b) (f false b)
theorem WU.o {a b c}(d:WU.v a b c):WU.c a b c:=Wa Tryz.func42 (x:=WU.h) (R0 d)
def Xk.h:Hn:=.q .o2 (.q .o8 .l)
def Xk.v (a b c d e:Int)(f:Hp)(g:aN):Prop:=aV #[.I a,.I b,.I c,.I d,.I e] 95 f λh i=>bM ((h.add 0).add 1) i λj=>bL (j+8) λk=>bL (k-1) λl=>Nz 8<|bL (l.tdiv 8) λm=>bL (m*8) λn=>g n i
theorem Xk.o {a b c d e f g}(h:Xk.v a b c d e f g):Xk.c a b c d e f g:=Wa Tryz.func44 (x:=Xk.h) (R0 h)
def XA.h:Hn:=.q .o2 .aL
def XA.v (a b c d e:Int)(f:Hp)(g:Fv->Hp->Prop):Prop:=aV #[.I a,.I b,.I c,.I d,.I e] 95 f λh i=>g ⟨82,#[],#[.pointer (some h)]⟩ i
theorem XA.o {a b c d e f g}(h:XA.v a b c d e f g):XA.c a b c d e f g:=Wa Tryz.func45 (x:=XA.h) (R0 h)
def Zy.h:Hn:=.q .o1 (.q .o4 .l)
def Zy.v (a:Int)(b:Hp)(c:aN):Prop:=bL (0-a) λd=>bL (d-1) λe=>c e b
theorem Zy.o {a b c}(d:Zy.v a b c):Zy.c a b c:=Wa Tryz.func46 (x:=Zy.h) (R0 d)
def X2.h:Hn:=.q .o1 (.q .o1 (.k (.loop [(6,.I)] (.q (.q .o4 (.c .l .l)) (.q (.k (.cR (.tail 10 (RI.ops 10) [.op]))) .o3)))))
def X2.v (a:R2)(b c d e f g:Int)(h:Hp)(i:aP):Prop:=aV #[.I b,.I c,.I d,.I e,.I f] 95 h λj k=>Yp [bN] (λl=>l 0 k) λm (n:Int) o=>aQ j 0 o λp=>aQ j 1 o λq=>aQ j 2 o λr=>aQ j 3 o λs=>aQ j 4 o λt=>Xk.c p q r s t o λu v=>If (n<u) (bF a 0 v λx=>bM ((j.add 0).add 0) v λy=>bL (y+n) λz=>Xd.c x z g v λaa ab=>bL (n+8) λac=>m ac ab) (i v)
theorem X2.o {a b c d e f g h i}(j:X2.v a b c d e f g h i):X2.c a b c d e f g h i:=Wa Tryz.func47 (x:=X2.h) (R0 j)
def X8.h:Hn:=.q .o1 (.q (.q .o3 .aK) (.q .o9 (.q (.k (.q (.cR (.seq [.op,.op,.op,.cU false 3 (RI.ops 3),.op])) (.c .aM (.q .o4 .aK)))) .aM)))
def X8.v (a:R2)(b:Int)(c:Hp)(d:aN):Prop:=WU.c a c λe f=>If (!e) (d 5 f) (YW.c a b ⟨44,#[],#[]⟩ f λg h i j k l m=>aV #[.I 0,.I 0,.I 0,.I 0,.I 0] 95 m λn o=>aR n 0 (.I g) o λp=>aR n 1 (.I h) p λq=>aR n 2 (.I i) q λr=>aR n 3 (.I j) r λs=>aR n 4 (.I k) s λt=>bV (λu v=>If u (d 7 v) (aQ n 0 v λw=>aQ n 1 v λx=>aQ n 2 v λy=>aQ n 3 v λz=>aQ n 4 v λaa=>Xa.c a w x y z aa v λab ac=>If ab (d 5 ac) (d 0 ac))) λad=>If (!l) (ad true t) (Nz 8 <| ad ((b.tmod 8) != 0) t))
theorem X8.o {a b c d}(e:X8.v a b c d):X8.c a b c d:=Wa Tryz.func48 (x:=X8.h) (R0 e)
def Xa.h:Hn:=.q .o2 (.q (.cR (.held true [7] (.tk [0,1,2,3,4,5,6] (.all [(7,.tk [8,9,10,11,12] (.done))])))) (.q (.cR (.seq [.op,.op,.op,.cU false 5 (RI.ops 5),.op])) .l))
def Xa.v (a:R2)(b c d e f:Int)(g:Hp)(h:aO):Prop:=aV #[.I b,.I c,.I d,.I e,.I f] 95 g λi j=>eO j λk=>bU a λl=>aU k l 0 λm=>gD k bN ((i.add 0).add 2) λ(n:Int)=>Xx.c m n j λo p q=>bV (λr s=>h r s) λt=>If (p != 0) (t true q) (bM ((i.add 0).add 3) q λu=>t (o != u) q)
theorem Xa.o {a b c d e f g h}(i:Xa.v a b c d e f g h):Xa.c a b c d e f g h:=Wa Tryz.func52 (x:=Xa.h) (R0 i)
def W9.h:TX:=.nx (.o 3) (.nx (.o 1) (.r1 (.o 2) bN (.block (.seq (.o 11) (.seq (.cR (.seq [.op,.op,.op,.cU false 4 [.op,.op,.op,.op]])) (.cond (.o 5) (.leaf))))) (.seq (.o 2) (.leaf))))
def W9.v (a:R2)(b c d e f:Int)(g:Hp)(h:Sl->Hp->Prop):Prop:=aV #[.pointer a] 33 g λi j=>aV #[.I b,.I c,.I d,.I e,.I f] 95 j λk l=>aV #[.slice none 0 0] 34 l λm n=>aQ k 0 n λo=>aQ k 1 n λp=>aQ k 2 n λq=>aQ k 3 n λr=>aQ k 4 n λs=>XA.c o p q r s n λt u=>Bv Tryz.prog (e1 bN) t u (λ(v:Int) w x=>fU i x λy=>bF y 0 x λaa=>YN.c aa v x λab ac ad=>bV (λae af=>If ae (jq m af λag=>aV #[.I v] 3 af λah ai=>App ag 1 8 3 [.I 0] ⟨some ah,1,1⟩ ai λaj ak=>dX m (.slice aj.a aj.len aj.cap) ak λal=>w al) (w af)) λam=>If (ac != 0) (am true ad) (Zy.c v ad λan ao=>am (ab != an) ao)) λap=>jq m ap λaq=>tI u.size ap λar=>h aq ar
theorem W9.o {a b c d e f g h}(i:W9.v a b c d e f g h):W9.c a b c d e f g h:=CN Tryz.func53 (x:=W9.h) (R0 i)
def YW.h:Hn:=.q .o2 (.q .o1 (.q .o2 (.q (.q .o5 (.k (.loop [(9,.one .b),(10,.one .b)] (.q (.cR (.seq [.it .i64 (.ag 5),.op])) (.q (.c .l .l) (.k (.q (.cR (.seq [.it .i64 (.ag 5),.op,.op,.op])) (.q (.q (.cR (.hO true [] [(38,.one .b)] (.tk [0,1,2,3,4,5] (.split 28 (.tk [6,7,8,9,10,11,12,13,14,15] (.done)) (.tk [6,7,8,9,10,11] (.all [(12,.tk [13,14,15] (.done))])))))) (.c .l .l)) (.q .o5 (.q (.cR (.seq [.op,.op,.op,.cU false 5 [.op,.op,.cU true 2 [.op,.op]],.op,.cU false 10 [.op,.op,.op,.op,.cU true 5 (RI.ops 5)]])) (.c .o5 .l))))))))))) (.q .o4 .l))))
def YW.v (a:R2)(b:Int)(c:Fv)(d:Hp)(e:Int->Int->Int->Int->Int->Bool->Hp->Prop):Prop:=aV #[.I 0,.I 0,.I 0,.I 0,.I 0] 95 d λf g=>aV #[.I 0,.I 0,.I 0,.I 0,.I 0] 95 g λh i=>bI a 1 i λk=>nC .i64 (.ag 5) k i λl m=>Yp [.b,.b] (λn=>n false false m) λo (p:Bool) (q:Bool) r=>nF .i64 (.ag 5) l r (aQ h 0 r λs=>aQ h 1 r λt=>aQ h 2 r λu=>aQ h 3 r λv=>aQ h 4 r λw=>aR f 0 (.I s) r λx=>aR f 1 (.I t) x λy=>aR f 2 (.I u) y λz=>aR f 3 (.I v) z λaa=>aR f 4 (.I w) aa λab=>aQ f 0 ab λac=>aQ f 1 ab λad=>aQ f 2 ab λae=>aQ f 3 ab λaf=>aQ f 4 ab λag=>e ac ad ae af ag p ab) (λah ai aj=>nJ .i64 (.ag 5) l aj λak al=>aV #[.I 0,.I 0,.I 0,.I 0,.I 0] 95 aj λam an=>aR am 0 (.I al.1) an λao=>aR am 1 (.I al.2.1) ao λap=>aR am 2 (.I al.2.2.1) ap λaq=>aR am 3 (.I al.2.2.2.1) aq λar=>aR am 4 (.I al.2.2.2.2) ar λau=>Jn [.b] (λ(av:Bool) aw=>If av (o p q aw) (aQ am 0 aw λax=>aQ am 1 aw λay=>aQ am 2 aw λaz=>aQ am 3 aw λa0=>aQ am 4 aw λa1=>Xa.c a ax ay az a0 a1 aw λa2 a3=>bV (λa4 a5=>bV (λa6 a7=>If a6 (aQ am 0 a7 λa8=>aQ am 1 a7 λa9=>aQ am 2 a7 λba=>aQ am 3 a7 λbb=>aQ am 4 a7 λbc=>aR h 0 (.I a8) a7 λbd=>
 aR h 1 (.I a9) bd λbe=>aR h 2 (.I ba) be λbf=>aR h 3 (.I bb) bf λbg=>aR h 4 (.I bc) bg λbh=>o true (!a2) bh) (o p q a7)) λbi=>If a4 (bi true a5) (bV (λbj bk=>bi bj bk) λbl=>If ((!a2)==q) (aQ am 4 a5 λbm=>aQ h 4 a5 λbn=>bl (decide (bm>bn)) a5) (bl false a5))) λbo=>If (!p) (bo true a3) (bV (λbp bq=>bo bp bq) λbr=>If (!a2) (br (!q) a3) (br false a3)))) λbs=>eO au λbt=>gD bt bN ((am.add 0).add 0) λ(bu:Int)=>If (b<bu) (bs true au) (gD bt bN ((am.add 0).add 0) λ(bv:Int)=>aS bt am 0 λbw=>aS bt am 1 λbx=>aS bt am 2 λbz=>aS bt am 3 λb0=>aS bt am 4 λb1=>VH Tryz.prog c [.agg #[.I bw,.I bx,.I bz,.I b0,.I b1]] [.I] au λb2 b3=>And (bt b3) <| bL (bv+b2) λb4=>bs (decide (b≥b4)) b3))
theorem YW.o {a b c d e}(f:YW.v a b c d e):YW.c a b c d e:=Wa Tryz.func56 (x:=YW.h) (R0 f)
def Yx.h:Hn:=.q .o2 (.q .o4 .l)
def Yx.v (a b c d e:Int)(f:Hp)(g:aN):Prop:=aV #[.I a,.I b,.I c,.I d,.I e] 95 f λh i=>bM ((h.add 0).add 1) i λj=>g j i
theorem Yx.o {a b c d e f g}(h:Yx.v a b c d e f g):Yx.c a b c d e f g:=Wa Tryz.func57 (x:=Yx.h) (R0 h)
def XT.h:Hn:=.q .o1 (.q (.q .o3 .aK) (.q (.q .o4 (.q .o2 .aJ)) (.q (.o 12) (.q (.k (.q (.cR (.seq [.op,.op,.op,.cU true 6 (RI.ops 6),.op])) (.c .aM (.q .o3 (.c .aM (.q .o4 (.c .aM (.q (.cR (.seq [.op,.op,.cU true 5 (RI.ops 5),.op])) .aK)))))))) (.q .o3 (.q .o6 (.q .o6 (.q (.cR (.tail 8 (RI.ops 8) [.op])) .aM))))))))
def XT.v (a:R2)(b c:Int)(d:Bool)(e:Hp)(f:aN):Prop:=WU.c a e λg h=>If (!g) (f 5 h) (Yj.c a b h λi j=>If (i != 0) (f i j) (bI a 1 j λl=>Lk .i64 (.ag 5) l c j λm=>aV #[.I 0,.I 0,.I 0,.I 0,.I 0] 95 j λn o=>aR n 0 (.I ((m.getD (0,0,0,0,0)).1)) o λp=>aR n 1 (.I ((m.getD (0,0,0,0,0)).2.1)) p λq=>aR n 2 (.I ((m.getD (0,0,0,0,0)).2.2.1)) q λr=>aR n 3 (.I ((m.getD (0,0,0,0,0)).2.2.2.1)) r λs=>aR n 4 (.I ((m.getD (0,0,0,0,0)).2.2.2.2)) s λt=>bV (λu v=>If u (f 9 v) (If (!m.isSome) (f 8 v) (aQ n 0 v λw=>aQ n 1 v λx=>aQ n 2 v λy=>aQ n 3 v λz=>aQ n 4 v λaa=>Xa.c a w x y z aa v λab ac=>If ab (f 5 ac) (bV (λad ae=>If ad (f 10 ae) (aQ n 0 ae λaf=>aQ n 1 ae λag=>aQ n 2 ae λah=>aQ n 3 ae λai=>aQ n 4 ae λaj=>X2.c a af ag ah ai aj (-1234567) ae λak=>bI a 1 ak λam=>lJ .i64 (.ag 5) am c ak λan=>bI a 2 an λap=>kc .i64 .b ap c true an λaq=>bF a 0 aq λau=>bM ((n.add 0).add 2) aq λav=>Zg.c au b av aq λaw ax=>f 0 ax)) λay=>If d (aQ n 0 ac λaz=>aQ n 1 ac λa0=>aQ n 2 ac λa1=>aQ n 3 ac λa2=>aQ n 4 ac λa3=>W9.c a az a0 a1 a2 a3 ac λa4 a5=>ay (decide (((a4.len:Nat):Int)>0)) a5) (ay false ac))))) λa6=>If (!m.isSome) (bI a 2 t λa8=>
 Lk .i64 .b a8 c t λa9=>a6 (a9.getD false) t) (a6 false t)))
theorem XT.o {a b c d e f}(g:XT.v a b c d e f):XT.c a b c d e f:=Wa Tryz.func63 (x:=XT.h) (R0 g)
def Qj.h:Hn:=.q .o1 (.q (.cR (.seq [.op,.op,.op,.cU true 4 (RI.ops 4),.op])) .l)
def Qj.v (a:R2)(b:Hp)(c:aO):Prop:=bV (λd e=>c d e) λf=>If (!a.isNone) (X1.c a b λg h i j k l=>f (decide (g>0)) l) (f false b)
theorem Qj.o {a b c}(d:Qj.v a b c):Qj.c a b c:=Wa Tryz.func65 (x:=Qj.h) (R0 d)
def cI.qL (l:Nat)(cap0:Addr)(U:Hp)(R:aP):Prop:=BP Tryz.prog 82 #[.func (.yield l) #[] #[],.pointer (some cap0)] U R
def cI.vD:Hn:=.seq (.seq (.o 4) (.block (.loop [(3,.one bN)] (.seq (.seq (.o 5) (.cond (.leaf) (.leaf))) (.seq (.block (.seq (.leaf) (.cond (.leaf) (.leaf)))) (.o 3)))))) (.seq (.cR (.held true [] (.tk [0,1,2,3] (.all [(4,.take 5 (.take 6 (.done)))])))) (.block (.loop [(4,.one bN)] (.seq (.seq (.o 10) (.cond (.leaf) (.leaf))) (.seq (.block (.seq (.leaf) (.cond (.leaf) (.leaf)))) (.o 3))))))
def cI.wG (l:Nat)(cap0:Addr)(U:Hp)(R:aP):Prop:=
 gA .i64 ((cap0.add 0).add 2) U λvw=>
 Yp [bN] (λI=>I vw U) λJ (vw1:Int) v=>
 gA .i64 ((cap0.add 0).add 0) v λt11=>
 If (decide (vw1<t11)) (UW Tryz.prog l [.int .i64 vw1] v λmore v1=>
  If (!more) (R v1)
   (Ar .i64 (vw1+8) λvw2=>
   J vw2 v1))
  (eO v λS=>
  gD S bN ((cap0.add 0).add 0) λ(t21:Int)=>
  gD S bN (cap0.add 0) λ(t22:Int)=>
  gD S bN (cap0.add 1) λ(t221:Int)=>
  gD S bN (cap0.add 2) λ(t222:Int)=>
  gD S bN (cap0.add 3) λ(t223:Int)=>
  gD S bN (cap0.add 4) λ(t224:Int)=>
  Xk.c t22 t221 t222 t223 t224 v λt23 v2=>
  And (S v2) <|
  Ar .i64 (t21+t23) λvw3=>
  Yp [bN] (λI1=>I1 vw3 v2) λJ1 (vw4:Int) v3=>
  Ar .i64 (vw4+8) λt26=>
  gA .i64 ((cap0.add 0).add 2) v3 λt29=>
  gA .i64 ((cap0.add 0).add 3) v3 λt32=>
  Ar .i64 (t29+t32) λt33=>
  If (decide (t26<=t33)) (UW Tryz.prog l [.int .i64 vw4] v3 λmore1 v4=>
   If (!more1) (R v4)
    (Ar .i64 (vw4+8) λvw5=>
    J1 vw5 v4))
   (R v3))
theorem cI.sR {l:Nat}{cap0:Addr}{U:Hp}{R:aP}(hv:cI.wG l cap0 U R):cI.qL l cap0 U R:=
 Jh Tryz.func82 (x:=cI.vD) (args:=[.func (.yield l) #[] #[],.pointer (some cap0)]) (R:=R) (R0 hv)
def Yj.h:Hn:=.q .o1 (.q (.q (.cR (.seq [.op,.op,.op,.cU false 8 (RI.ops 8)])) .aK) (.q (.q .o7 .aK) .aM))
def Yj.v (a:R2)(b:Int)(c:Hp)(d:aN):Prop:=bV (λe f=>If e (d 1 f) (bF a 0 f λh=>YX.c h b f λi j=>If (!(i.toList==(ByteArray.mk #[]).toList)) (d 5 j) (d 0 j))) λk=>If (b<0) (k true c) (bF a 0 c λm=>X1.c m c λn o p q r s=>k (decide (b≥p)) s)
theorem Yj.o {a b c d}(e:Yj.v a b c d):Yj.c a b c d:=Wa Tryz.func90 (x:=Yj.h) (R0 e)
end Go.Proofs
namespace Go.Ar
open Go Go.Vc Go.Proofs
open Go.Vc (bW dB cS)
variable {U σ0 v w w':Hp}{F P Q X T:Rg}{L:dH}{H H':Hw}{held:List Pc}{s0 sp:Sp}{t n:Nat}{g:Th}{gb km fm m:Nat}
theorem iF {S:aP}{b i:Nat}{cs:List Value}{c:CK}{y:c.T}(hS:∀m,S m->bY m b cs)(hc:cs[i]?=some (c.v y)){K:c.T->Prop}(hK:K y):gD S c (Addr.add ⟨b,0,none⟩ i) K:=
 ⟨y,λm a=>by rw[add_lit,(hS m a).cell,zH];exact hc,hK⟩
theorem sF {S:aP}{b:Nat}{cs:List Value}{c:CK}{y:c.T}(hS:∀m,S m->bY m b cs)(hc:cs[0]?=some (c.v y)){K:c.T->Prop}(hK:K y):gD S c ⟨b,0,none⟩ K:=
 ⟨y,λm a=>by rw[(hS m a).cell];exact hc,hK⟩
theorem oM {S:aP}{b i j:Nat}{cs:List Value}{c:CK}{y:c.T}(hS:∀m,S m->bY m b cs)(hc:cs[i+j]?=some (c.v y)){K:c.T->Prop}(hK:K y):gD S c (Addr.add (Addr.add ⟨b,0,none⟩ i) j) K:=
 ⟨y,λm a=>by rw[add_lit,add_lit,(hS m a).cell,zH];exact hc,hK⟩
abbrev B5:=Int×Int×Int×Int×Int
def eW (b:B5):List Value:=[.int .i64 b.1,.int .i64 b.2.1,.int .i64 b.2.2.1,.int .i64 b.2.2.2.1,.int .i64 b.2.2.2.2]
def YR (n:Int):Int:=(n+7)/8*8
structure gZ (b:B5):Prop where
 s:1<=b.2.1/\b.2.1<=1024
 base:0<=b.2.2.1/\b.2.2.1%8=0
 z:16<=b.1-b.2.2.1/\b.1-b.2.2.1<=256/\b.1%8=0
 t:b.1+YR b.2.1+16<=b.2.2.1+b.2.2.2.1/\b.2.2.2.1%8=0
 m:b.2.2.1+b.2.2.2.1<=270000
theorem Z5 {n:Int}(h:0<=n):n<=YR n/\YR n<=n+7/\YR n%8=0:=by unfold YR;omega
structure Gu where
 kn:List (Int×B5)
 fr:List (Int×Bool)
 no:Int
def nH:Gu:=⟨[],[],0⟩
def Vr (b:B5):Nat:=(b.1-b.2.2.1).toNat/8
def pF (b:B5):Nat:=(b.2.2.1+b.2.2.2.1-b.1-YR b.2.1).toNat/8
def Za (b:B5):List Int:=((List.range (Vr b)).map λ(i:Nat)=>b.2.2.1+8*(i:Int))++(List.range (pF b)).map λ(i:Nat)=>b.1+YR b.2.1+8*(i:Int)
theorem DT (b:B5):(Za b).length=Vr b+pF b:=by unfold Za;simp
theorem JC {b:B5}{i:Nat}(h:i<Vr b):(Za b)[i]?=some (b.2.2.1+8*(i:Int)):=by
 unfold Za;rw[zh (by simpa using h)];simp[h]
theorem Si {b:B5}{i:Nat}(h:i<pF b):(Za b)[Vr b+i]?=some (b.1+YR b.2.1+8*(i:Int)):=by
 unfold Za;rw[zp aA];simp[h]
theorem UJ {b:B5}(bi:gZ b){z:Int}(hz:z∈Za b):b.2.2.1<=z/\z%8=0/\z+8<=b.2.2.1+b.2.2.2.1/\(z+8<=b.1\/b.1+YR b.2.1<=z):=by
 obtain⟨s,⟨j,p⟩,⟨u,d,r⟩,⟨t,g⟩,m⟩:=bi;have e:=Z5 (n:=b.2.1) O;unfold Za at hz;rcases zK.1 hz with h|h
 ·obtain⟨i,a,rfl⟩:=zE.1 h;have:=zc.1 a;unfold Vr at this;exact⟨O,O,O,.inl O⟩
 ·obtain⟨i,a,rfl⟩:=zE.1 h;have:=zc.1 a;unfold pF at this;exact⟨O,O,O,.inr O⟩
def jz (z:Int):Int:=-z-1
def rk (hp km fm:Nat)(x:Gu):List Value:=[.pointer (some ⟨hp,0,none⟩),.map (some km),.map (some fm),.int .i64 x.no]
structure GP (σ0 U:Hp) (L:dH) (H:Hw) (held:List Pc) (s0:Sp) (P:Rg) (gb km fm:Nat) (x:Gu):Prop where
 e:bK σ0 U
 h:HH U P L H
 hi:HI H held s0
 cf:kR H
 pg:H.cf.aF<=128
 pP:∀b,P b->σ0.size<=b/\b<U.size
 qJ:σ0.size<=gb/\¬P gb
 sT:σ0.size<=km/\¬P km
 sk:σ0.size<=fm/\¬P fm
 n1:gb≠km
 n2:gb≠fm
 n3:km≠fm
 b:bY U gb (rk L.p km fm x)
 m:dL U km .i64 (.ag 5) x.kn
 f:dL U fm .i64 .b x.fr
 g0:iS (λb=>σ0.size<=b)/\¬σ0.size<=1
variable {x y:Gu}
theorem GP.fr (p:GP σ0 U L H held s0 P gb km fm x)(e:bK U w):GP σ0 w L H held s0 P gb km fm x:=
 ⟨p.e.trans e,p.h.bO e,p.hi,p.cf,p.pg,λb a=>⟨(p.pP b a).1,by have:=(p.pP b a).2;have:=e.1;omega⟩,p.qJ,p.sT,p.sk,p.n1,p.n2,p.n3,e.bT p.b id,e.fR p.m id,e.fR p.f id,p.g0⟩
theorem GP.out (p:GP σ0 U L H held s0 P gb km fm x)(e:Ext T U w)(hT:∀b,b<U.size->T b->¬P b/\b≠gb/\b≠km/\b≠fm/\σ0.size<=b):GP σ0 w L H held s0 P gb km fm x:=by
 have s:=e.1;have a:=p.b.lt;have j:=p.m.lt;have g:=p.f.lt;have i:Ext (λb=>T b/\b<U.size) U w:=⟨e.1,λb a g=>e.2 b a λd=>g ⟨d,a⟩⟩;refine⟨Ext.dV p.e i λb a=>.inr (hT b a.2 a.1).2.2.2.2,p.h.bR i (λb a r d=>(hT b a d.1).1 r) (λb a=>?_) (λa=>?_),p.hi,p.cf,p.pg,λb a=>⟨(p.pP b a).1,by have:=(p.pP b a).2;omega⟩,p.qJ,p.sT,p.sk,p.n1,p.n2,p.n3,e.bT p.b λd=>(hT gb a d).2.1 rfl,e.fR p.m λd=>(hT km j d).2.2.1 rfl,e.fR p.f λd=>(hT fm g d).2.2.2.1 rfl,p.g0⟩
 ·exact p.g0.1 b (hT b a.2 a.1).2.2.2.2
 ·exact p.g0.2 (hT _ a.2 a.1).2.2.2.2
theorem GP.step (p:GP σ0 U L H held s0 P gb km fm x){ts':List eJ}(e:Ext P U w)(h':HH w (Grow P U) {L with ts:=ts'} H'){held':List Pc}{s0':Sp}(hi':HI H' held' s0')(k:Qr H' H) :
 GP σ0 w {L with ts:=ts'} H' held' s0' (Cut (Grow P U) w) gb km fm x:=by
 have u:=e.1;have a:=p.b.lt;have s:=p.m.lt;have r:=p.f.lt;have g:∀b,b<U.size->¬P b->¬Cut (Grow P U) w b:=λb d i j=>by
  rcases j.1 with h3|h3
  ·exact i h3
  ·omega
 refine⟨Ext.dV p.e e λb a=>.inr (p.pP b a).1,h'.cut,hi',p.cf.bR k,by rw[k.2.1];exact p.pg,λb a=>⟨?_,a.2⟩,⟨p.qJ.1,g gb a p.qJ.2⟩,⟨p.sT.1,g km s p.sT.2⟩,⟨p.sk.1,g fm r p.sk.2⟩,p.n1,p.n2,p.n3,e.bT p.b p.qJ.2,e.fR p.m p.sT.2,e.fR p.f p.sk.2,p.g0⟩;have:=p.e.1;rcases a.1 with d|d
 ·exact(p.pP b d).1
 ·omega
theorem GP.fo (p:GP σ0 U L H held s0 P gb km fm x)(e:Ext (λb=>b=gb\/b=km\/b=fm) U w)(hb:bY w gb (rk L.p km fm y))(hm:dL w km .i64 (.ag 5) y.kn)(hf:dL w fm .i64 .b y.fr):GP σ0 w L H held s0 P gb km fm y:=by
 have i:=e.1;have a:∀b,(b=gb\/b=km\/b=fm)->σ0.size<=b/\¬P b:=λb hb=>by
  rcases hb with rfl|rfl|rfl
  ·exact p.qJ
  ·exact p.sT
  ·exact p.sk
 exact⟨Ext.dV p.e e λb hb=>.inr (a b hb).1,p.h.bR e (λb _ d g=>(a b g).2 d) (λb hb=>p.g0.1 b (a b hb).1) (λhb=>p.g0.2 (a _ hb).1),p.hi,p.cf,p.pg,λb hb=>⟨(p.pP b hb).1,by have:=(p.pP b hb).2;omega⟩,p.qJ,p.sT,p.sk,p.n1,p.n2,p.n3,hb,hm,hf,p.g0⟩
theorem Ug (p:GP σ0 U L H held s0 P gb km fm x){R:aO}(hR:R true U):WU.c (aW gb) U R:=by
 refine WU.o ?_;unfold WU.v;exact bV.intro (cD rfl (aG (p.b.rP rfl hR)))
theorem UU (b:B5)(h0:0<=b.2.1)(h1:b.2.1<=1000000){R:aN}(hR:∀σ',bK U σ'->R (YR b.2.1) σ'):Xk.c b.1 b.2.1 b.2.2.1 b.2.2.2.1 b.2.2.2.2 U R:=by
 refine Xk.o ?_;unfold Xk.v;refine nw (cs:=eW b) λv d e a=>a.eZ rfl (ar O O (ar O O (nz aB (ar (by rw[Xs O];omega) (by rw[Xs O];omega) ?_))));rw[Xs O];refine ar O O ?_;have:(b.2.1+8-1)/8*8=YR b.2.1:=by unfold YR;omega
 rw[this];exact hR v e
theorem Dv (z:Int)(h0:0<=z)(h1:z<=1000000){R:aN}(hR:R (jz z) U):Zy.c z U R:=by
 refine Zy.o ?_;unfold Zy.v;refine ar O O (ar O O ?_);have:0-z-1=jz z:=by unfold jz;omega
 rw[this];exact hR
theorem FJ (b:B5){R:Fv->Hp->Prop}(hR:∀σ',σ'.size=U.size+1->bK U σ'->bY σ' U.size (eW b)->R ⟨82,#[],#[.pointer (some ⟨U.size,0,none⟩)]⟩ σ'):XA.c b.1 b.2.1 b.2.2.1 b.2.2.2.1 b.2.2.2.2 U R:=by
 refine XA.o ?_;unfold XA.v;exact nw (cs:=eW b) λv d e a=>hR v d e a
theorem CT {P:Program}{l:Nat}{args:List Value}{h:Hp}{R R':Bool->Hp->Prop}(hy:UW P l args h R)(hm:∀b w,R b w->R' b w):UW P l args h R':=λw g=>by
 obtain⟨u,a,p,j,d,i⟩:=hy w g;exact⟨u,a,p,j,d,i.mono λe x ⟨r,b,m,s⟩=>⟨r,b,m,hm _ _ s⟩⟩
theorem FM {b:B5}(bi:gZ b):vA Tryz.prog ⟨82,#[],#[.pointer (some ⟨n,0,none⟩)]⟩ ((Za b).map (e1 bN)) (λs=>bY s n (eW b)):=by
 intro l J hst hKp hy h h0;obtain⟨s,⟨L,Q⟩,⟨R,N,H⟩,⟨t,K⟩,P⟩:=bi;have M:=Z5 (n:=b.2.1) O;have E:(Vr b:Int)*8=b.1-b.2.2.1:=by unfold Vr;omega
 have D:(pF b:Int)*8=b.2.2.1+b.2.2.2.1-b.1-YR b.2.1:=by unfold pF;omega
 show cI.qL l ⟨n,0,none⟩ h λC=>J ((Za b).map (e1 bN)).length C;rw[zl,DT];refine cI.sR ?_;unfold cI.wG;refine(hKp 0 h h0).eZ rfl (ZS (a:=bN) (λ(z:Int) s=>∃i:Nat,z=b.2.2.1+8*(i:Int)/\i<=Vr b/\J i s) (λz _=>(b.1-z).toNat) ⟨0,O,O,h0⟩ ?_);rintro(z:Int) s ⟨i,rfl,hi,hJ⟩;have B:=hKp i s hJ;refine B.eZ rfl (cQ (λw=>?_) λx=>?_)
 ·have d:i<Vr b:=by omega
  have A:((Za b).map (e1 bN))[i]?=some [Value.int .i64 (b.2.2.1+8*(i:Int))]:=by rw[zg,JC d];rfl
  refine CT (hy i _ A s hJ) λF G ⟨g,j⟩=>?_;subst g;exact cB rfl (ar O O ⟨⟨i+1,O,O,j⟩,O⟩)
 ·have d:i=Vr b:=by omega
  subst d;have p:∀m,bK s m->bY m n (eW b):=λm e=>e.bT B id;refine⟨λm=>bK s m,Ext.refl _ _,oM (c:=bN) (y:=b.1) p rfl (iF (c:=bN) (y:=b.1) p rfl (iF (c:=bN) (y:=b.2.1) p rfl (iF (c:=bN) (y:=b.2.2.1) p rfl (iF (c:=bN) (y:=b.2.2.2.1) p rfl (iF (c:=bN) (y:=b.2.2.2.2) p rfl ?_)))))⟩;refine UU b O O λs1 u=>⟨u,ar O O ?_⟩;refine ZS (a:=bN) (λ(z:Int) s=>∃i:Nat,z=b.1+YR b.2.1+8*(i:Int)/\i<=pF b/\J (Vr b+i) s) (λz _=>(b.2.2.1+b.2.2.2.1-z).toNat) ⟨0,O,O,hst _ _ _ hJ u⟩ ?_;rintro(z:Int) s2 ⟨i,rfl,hi,hJ2⟩;have r:=hKp _ s2 hJ2;refine ar O O (r.eZ rfl (r.eZ rfl (ar O O (cQ (λw=>?_) λx=>?_))))
  ·have d:i<pF b:=by omega
   have A:((Za b).map (e1 bN))[Vr b+i]?=some [Value.int .i64 (b.1+YR b.2.1+8*(i:Int))]:=by rw[zg,Si d];rfl
   refine CT (hy _ _ A s2 hJ2) λF G ⟨g,j⟩=>?_;subst g;exact cB rfl (ar O O ⟨⟨i+1,O,O,j⟩,O⟩)
  ·have d:i=pF b:=by omega
   subst d;exact hJ2
def Uu (H:Hw)(b:B5):Bool:=!(Ke H b.2.2.1==some b.2.2.2.1)
theorem UL (p:GP σ0 U L H held s0 P gb km fm x)(b:B5){R:aO}(hR:∀σ',bK U σ'->R (Uu H b) σ'):Xa.c (aW gb) b.1 b.2.1 b.2.2.1 b.2.2.2.1 b.2.2.2.2 U R:=by
 refine Xa.o ?_;unfold Xa.v;refine nw (cs:=eW b) λv s e j=>?_;have g:=p.fr e;refine⟨λm=>bK v m,Ext.refl _ _,aG (iF (c:=.p) (y:=some ⟨L.p,0,none⟩) (λm e=>e.bT g.b id) rfl (oM (c:=bN) (y:=b.2.2.1) (λm e=>e.bT j id) rfl (Fz g.h b.2.2.1 λr e1=>?_)))⟩;have d:=e1.bT j id;have a:=hR r (e.trans e1);refine bV.intro ?_;cases hu:Ke H b.2.2.1 with
 | none=>
  unfold Uu at a;rw[hu]at a;exact cD rfl a
 | some u=>
  unfold Uu at a;rw[hu]at a;refine cB rfl (d.eZ rfl ?_);have:(!(some u==some b.2.2.2.1))=((some u).getD 0 != b.2.2.2.1):=by simp[bne]
  rw[this]at a;exact a
def QU (H:Hw)(thread:Int):Int:=if thread<0\/thread≥(H.cf.threads:Int)then 1 else if(V5 H thread).isSome then 5 else 0
theorem Po (p:GP σ0 U L H held s0 P gb km fm x)(thread:Int){R:aN}(hR:∀σ',bK U σ'->R (QU H thread) σ'):Yj.c (aW gb) thread U R:=by
 refine Yj.o ?_;unfold Yj.v;refine Q8 (λr u=>bK U u/\r=decide (thread<0\/thread≥(H.cf.threads:Int))) (λr u ⟨d,g⟩=>?_) λJ i=>?_
 ·by_cases hc:thread<0\/thread≥(H.cf.threads:Int)
  ·have a:=hR u d;unfold QU at a;rw[zC hc]at a;exact cD (by rw[g];exact zJ hc) a
  ·have j:=p.fr d;refine cB (by rw[g];exact zM hc) (aG (j.b.rP rfl (OH j.h thread λs w e2 m=>?_)));have a:=hR w (d.trans e2);unfold QU at a;rw[zB hc]at a;rw[m];cases hp:V5 H thread with
   | none=>rw[hp]at a;exact cB rfl a
   | some q=>rw[hp]at a;exact cD rfl a
 ·refine cQ (λh=>i _ _ ⟨Ext.refl _ _,by rw[zJ];exact .inl h⟩) λh=>aG (p.b.rP rfl (D5 p.h λu e=>i _ _ ⟨e,?_⟩));rw[lO,decide_eq_true_iff,decide_eq_true_iff];exact⟨.inr,λy=>y.resolve_left h⟩
theorem I4 (h:HH U F L H)(hp:1<=H.cf.aF){R:aO}(hR:∀σ',bK U σ'->R true σ'):Qj.c (aW L.p) U R:=by
 refine Qj.o ?_;unfold Qj.v;refine bV.intro (cD rfl (D5 h λw e=>?_));have:decide ((H.cf.aF:Int)>0)=true:=zJ O;rw[this];exact hR w e
theorem Db (e0:bK σ0 U)(h:HH U P L H)(hi:HI H held s0)(hc:kR H)(hpg:H.cf.aF<=128)(hP:∀b,P b->σ0.size<=b/\b<U.size)(hg:iS (λb=>σ0.size<=b)/\¬σ0.size<=1){R:Option Addr->Int->Hp->Prop}
 (hR:∀w gb km fm,bK U w->U.size<=gb/\U.size<=km/\U.size<=fm->GP σ0 w L H held s0 P gb km fm nH->R (some ⟨gb,0,none⟩) 0 w):Qu.c (aW L.p) U R:=by
 refine Qu.o ?_;unfold Qu.v;refine I4 h hc.1 λv e=>cB rfl (r7 λi s e1 m=>r7 λy z e2 A=>nw (cs:=rk L.p v.size i.size nH) λv3 x g u=>?_);have C:=e.1;have D:=e0.1;have a:=((e.trans e1).trans e2).trans g;have d:∀b,U.size<=b->¬P b:=λb B r=>by have:=(hP b r).2;omega
 exact hR v3 y.size v.size i.size a ⟨O,O,O⟩ ⟨e0.trans a,h.bO a,hi,hc,hpg,λb j=>⟨(hP b j).1,by have:=(hP b j).2;have:=a.1;omega⟩,⟨O,d _ O⟩,⟨O,d _ O⟩,⟨O,d _ O⟩,O,O,O,u,(e2.trans g).fR (m _ _) id,g.fR (A _ _) id,hg⟩
end Go.Ar
namespace Go.Ar
open Go Go.Vc Go.Proofs
open Go.Vc (bW dB cS)
variable {U σ0 v w w':Hp}{F P Q X T:Rg}{L:dH}{H H':Hw}{held:List Pc}{s0 sp:Sp}{t n:Nat}{g:Th}{gb km fm m:Nat}{x y:Gu}{b:B5}
def j4 (sp:Sp)(l:List Int)(f:Int->Int):Sp:=l.foldl (λs z=>ZU s z (f z)) sp
theorem Nc (sp:Sp)(z:Int)(l:List Int)(f:Int->Int):j4 sp (z::l) f=j4 (ZU sp z (f z)) l f:=rfl
theorem Ci (sp:Sp)(l:List Int)(z:Int)(f:Int->Int):j4 sp (l++[z]) f=ZU (j4 sp l f) z (f z):=by unfold j4;rw[uO];rfl
theorem Ur {sp:Sp}{x:Nat}:eH sp ((8*x:Nat):Int)=0↔gf sp.st (x/32)≠0:=by
 unfold eH;rw[zB O,show((8*x:Nat):Int).toNat/256=x/32 by omega];unfold gf;split
 ·rename_i h;rw[h];simp
 ·rename_i h;exact⟨λ_=>h,λ_=>rfl⟩
theorem Gh (sp:Sp)(x:Nat):QH sp ((8*x:Nat):Int)=if gf sp.st (x/32)≠0 then sp.wd x else 0:=by
 unfold QH;by_cases h:gf sp.st (x/32)≠0
 ·rw[zC (Ur.2 h),zC h];congr 1;omega
 ·rw[zB (λa=>h (Ur.1 a)),zB h]
theorem yf (f:Int->Int):∀(l:List Int) (sp:Sp),(∀z∈l,0<=z/\z%8=0)->(j4 sp l f).st.length=sp.st.length/\(∀p,gf (j4 sp l f).st p=0↔gf sp.st p=0) ∧
 ∀w:Nat,(j4 sp l f).wd w=if((8*w:Nat):Int)∈l/\gf sp.st (w/32)≠0 then f ((8*w:Nat):Int)else sp.wd w
 | [],sp,_=>⟨rfl,λ_=>Iff.rfl,λw=>by rw[zB aA];rfl⟩
 | z::l,sp,hl=>by
  obtain⟨i1,i2,i3⟩:=yf f l (ZU sp z (f z)) λz a=>hl z (np _ a);obtain⟨j,b,g⟩:=CO sp z (f z);have m:=hl z pG;obtain⟨zn,rfl⟩:∃c:Nat,z=((8*c:Nat):Int):=⟨z.toNat/8,O⟩;rw[Nc];refine⟨i1.trans j,λp=>(i2 p).trans (b p),λw=>?_⟩;rw[i3,g];have a:=b (w/32);by_cases hm:gf sp.st (w/32)≠0
  ·by_cases hw:((8*w:Nat):Int)∈l
   ·rw[zC ⟨hw,λh=>hm (a.1 h)⟩,zC ⟨np _ hw,hm⟩]
   ·rw[zB λh=>hw h.1];by_cases he:w=zn
    ·subst he;rw[zC ⟨Ur.2 hm,O⟩,zC ⟨pG,hm⟩]
    ·rw[zB λh=>he (by have:=h.2;omega),zB λh=>(zW.1 h.1).elim (λh=>he O) hw]
  ·have key:¬(eH sp ((8*zn:Nat):Int)=0/\w=((8*zn:Nat):Int).toNat/8):=λh=>by
    have d:=Ur.1 h.1;have e:w=zn:=by omega
    subst e;exact hm d
   rw[zB λh=>hm λi=>h.2 (a.2 i),zB key,zB λh=>hm h.2]
theorem HI.j4 (f:Int->Int):∀(l:List Int) {H:Hw} {s0:Sp},HI H held s0->∃s0',HI {H with sp:=Go.Ar.j4 H.sp l f} held s0'
 | [],H,s0,h=>⟨s0,h⟩
 | z::l,H,s0,h=>HI.j4 f l (h.write z (f z))
theorem KK {f:Int->Int}{l:List Int}{sp:Sp}(hl:∀z∈l,0<=z/\z%8=0)(w:Nat):QH (j4 sp l f) ((8*w:Nat):Int)=if((8*w:Nat):Int)∈l/\gf sp.st (w/32)≠0 then f ((8*w:Nat):Int)else QH sp ((8*w:Nat):Int):=by
 obtain⟨_,a,d⟩:=yf f l sp hl;rw[Gh,Gh];by_cases hm:gf sp.st (w/32)≠0
 ·rw[zC λh=>hm ((a _).1 h),d];by_cases hw:((8*w:Nat):Int)∈l
  ·rw[zC ⟨hw,hm⟩,zC ⟨hw,hm⟩]
  ·rw[zB λh=>hw h.1,zB λh=>hw h.1,zC hm]
 ·rw[zB λh=>hm λb=>h ((a _).2 b),zB λh=>hm h.2,zB hm]
def QM (b:B5):Nat:=(YR b.2.1/8).toNat
def Z9 (b:B5):List Int:=(List.range (QM b)).map λ(i:Nat)=>b.1+8*(i:Int)
theorem Gs (bi:gZ b){z:Int}(hz:z∈Z9 b):b.1<=z/\z%8=0/\z+8<=b.1+YR b.2.1:=by
 obtain⟨s,⟨j,p⟩,⟨u,d,r⟩,⟨t,g⟩,m⟩:=bi;have e:=Z5 (n:=b.2.1) O;obtain⟨i,a,rfl⟩:=zE.1 hz;have:=zc.1 a;unfold QM at this;omega
theorem GP.write (p:GP σ0 U L H held s0 P gb km fm x)(gc:Gc σ0)(z u:Int)(hz:z<=9223372036854775807){R:aN}
 (hR:∀w s0' P',Ext P U w->GP σ0 w L {H with sp:=ZU H.sp z u} held s0' P' gb km fm x->(∀c,P' c->P c\/U.size<=c)->R (eH H.sp z) w):Xd.c (aW L.p) z u U R:=by
 refine Rk p.h (gc.bO p.e) z u hz λw e b=>?_;exact hR w _ _ e (p.step (ts':=L.ts) e b (p.hi.write z u) ⟨rfl,rfl,rfl,rfl⟩) λc a=>a.1
theorem DR {D:Nat}{s:Hp}{K:aP}(h:s[D]?=some (.deferred (some [])))(hK:∀w,Ext (· = D) s w->K w):tI D s K:=
 ⟨h,hK _ ⟨by simp,λb d a=>by rw[Array.getElem?_setIfInBounds,zB λh=>a h.symm]⟩⟩
set_option maxRecDepth 8000 in
theorem ER (p:GP σ0 U L H held s0 P gb km fm x)(gc:Gc σ0)(bi:gZ b)(val:Int){R:aP}
 (hR:∀w s0' P',Ext P U w->GP σ0 w L {H with sp:=j4 H.sp (Z9 b) λ_=>val} held s0' P' gb km fm x->(∀c,P' c->P c\/U.size<=c)->R w):X2.c (aW gb) b.1 b.2.1 b.2.2.1 b.2.2.2.1 b.2.2.2.2 val U R:=by
 obtain⟨⟨s1,s2⟩,⟨S,Y⟩,⟨Z,W,K⟩,⟨t,Q⟩,X⟩:=bi;have V:=Z5 (n:=b.2.1) O;have hn:(QM b:Int)*8=YR b.2.1:=by unfold QM;omega
 refine X2.o ?_;unfold X2.v;refine nw (cs:=eW b) λv N e J=>?_;refine ZS (a:=bN) (λ(z:Int) u=>∃(i:Nat) (s0':Sp) (P':Rg),z=8*(i:Int)/\i<=QM b/\Ext P v u/\bY u U.size (eW b)/\GP σ0 u L {H with sp:=j4 H.sp ((List.range i).map λ(j:Nat)=>b.1+8*(j:Int)) λ_=>val} held s0' P' gb km fm x/\∀c,P' c->P c\/v.size<=c) (λz _=>(YR b.2.1-z).toNat)
  ⟨0,s0,P,O,O,Ext.refl _ _,J,p.fr e,λc g=>.inl g⟩ ?_
 rintro(z:Int) u ⟨i,s0',P',rfl,hi,eu,hbu,pu,hP⟩;refine hbu.rI rfl (hbu.rI rfl (hbu.rI rfl (hbu.rI rfl (hbu.rI rfl (UU b O O λA e1=>?_)))));have m:=e1.bT hbu id;have y:=pu.fr e1;refine cQ (λC=>?_) λF=>?_
 ·refine aG (y.b.rP rfl (m.eZ rfl (ar O O (y.write gc _ val O λM d P'' e2 B s=>?_))));have E:=e1.1;have D:=eu.1;refine ar O O ⟨⟨i+1,d,P'',O,O,Ext.dV (eu.jL e1) e2 hP,e2.bT m λG=>?_,?_,λc g=>?_⟩,O⟩
  ·rcases hP _ G with h|h
   ·have:=(p.pP _ h).2;omega
   ·omega
  ·rw[qm,kC,List.map_singleton,Ci];exact B
  ·rcases s c g with h|h
   ·exact hP c h
   ·exact .inr O
 ·have r:i=QM b:=by omega
  subst r;refine hR A _ _ ((bK.to e).trans (eu.jL e1)) y λc g=>?_;have:=e.1;exact(hP c g).imp id λh=>by omega
def jI (sp:Sp)(z:Int):Bool:=eH sp z != 0||QH sp z != jz z
def Ki (sp:Sp)(b:B5):List Int:=(Za b).filter (jI sp)
set_option maxRecDepth 16000 in
theorem Hs (p:GP σ0 U L H held s0 P gb km fm x)(bi:gZ b){R:Sl->Hp->Prop}
 (hR:∀s w Q,bK U w->bS s 1 (Wo (Ki H.sp b)) w Q->(∀c,Q c->U.size<=c/\c<w.size)->R s w):W9.c (aW gb) b.1 b.2.1 b.2.2.1 b.2.2.2.1 b.2.2.2.2 U R:=by
 refine W9.o ?_;unfold W9.v;refine nw (cs:=[.pointer (some ⟨gb,0,none⟩)]) λv1 hz1 e1 b1=>nw (cs:=eW b) λN hz2 e2 b2=>nw (cs:=[.slice none 0 0]) λv3 hz3 W b3=>?_;have j:=W.bT b2 id;have S:=(e2.trans W).bT b1 id;refine j.rI rfl (j.rI rfl (j.rI rfl (j.rI rfl (j.rI rfl (FJ b λv4 hz4 X b4=>?_)))));have aa:=((e1.trans e2).trans W).trans X;have hzs:(Za b).length<=100000:=by
  obtain⟨⟨s1,s2⟩,⟨b1,b2⟩,⟨z1,z2,z3⟩,⟨t,t2⟩,hm⟩:=bi;have hw:=Z5 (n:=b.2.1) O;rw[DT];unfold Vr pF;omega
 refine⟨rfl,by kernel_rfl,Za b,_,λk s=>bK U s/\bY s U.size [.pointer (some ⟨gb,0,none⟩)]/\bY s v3.size (eW b)/\∃(sl:Sl) (Q:Rg),bY s N.size [.slice sl.a sl.len sl.cap]/\bS sl 1 (Wo (((Za b).take k).filter (jI H.sp))) s Q/\∀c,Q c->v4.size+2<=c/\c<s.size,FM bi,?_,λk s h=>h.2.2.1,?_,?_,?_⟩
 ·rintro k s s' ⟨B,D,G,sl,Q,C,E,A⟩ e;have hz:=e.1;refine⟨Ext.dV B e λc d=>.inr O,e.bT D O,e.bT G O,sl,Q,e.bT C O,aI.bR E e λc _ Y d=>?_,λc d=>?_⟩
  ·have:=A c Y;omega
  ·have:=A c d;omega
 ·exact⟨aa,(X).bT S id,b4,⟨none,0,0⟩,λ_=>False,X.bT b3 id,⟨rfl,.inl ⟨rfl,rfl⟩⟩,λc d=>d.elim⟩
 ·rintro k z hk s ⟨B,D,G,sl,Q,C,E,A⟩ hsz;have zi:=UJ bi (zG hk);have M:=bi.base;have hm:=bi.m;have hkl:=(cW.1 hk).1;have ps:=p.fr B;have F:(Za b).take (k+1)=(Za b).take k++[z]:=by rw[lI,hk];rfl
  refine D.qP rfl (aG (ps.b.rP rfl (DG ps.h z O λv5 g=>?_)));have hz5:=g.1;refine Q8 (λr u=>u=v5/\r=jI H.sp z) (λr u ⟨hu,hr⟩=>?_) λJ hJ=>?_
  ·subst hu;have K:=aI.bO E g;have i:∀c,Q c->c≠v4.size/\c≠v4.size+1/\c≠U.size/\c≠v3.size/\c≠N.size:=λc d=>by have:=A c d;omega
   refine cO (λM=>?_) λM=>?_
   ·refine(g.bT C id).tx rfl (Ds K ?_ z λs' v8 Z h8=>?_)
    ·have B:=qe (jI H.sp) ((Za b).take k);rw[zZ]at B;omega
    have hz8:=Z.1;have h48:=Z.bT (g.bT C id) λd=>(i _ d).2.2.2.2 rfl;refine h48.s0 aA λv9 o9 h9=>?_;have e9:=o9.ext;have hz9:=o9.1;have y:Ext (λc=>Q c\/c=N.size) u v9:=(Z.sub λc d=>.inl d).trans (e9.sub λc d=>.inr d);refine⟨⟨Ext.dV (B.trans g) y λc d=>?_,y.bT (g.bT D id) ?_,y.bT (g.bT G id) ?_,s',λc=>Q c\/u.size<=c/\c<v8.size,h9,?_,λc d=>?_⟩,?_,?_⟩
    ·rcases d with d|d
     ·have:=A c d;exact .inr O
     ·exact .inr O
    ·rintro(d|d)
     ·exact(i _ d).2.2.1 rfl
     ·omega
    ·rintro(d|d)
     ·exact(i _ d).2.2.2.1 rfl
     ·omega
    ·have:((Za b).take (k+1)).filter (jI H.sp)=((Za b).take k).filter (jI H.sp)++[z]:=by
      rw[F,tT,tE (by rw[←hr];exact M)];rfl
     rw[this];refine aI.bR h8 e9 λc _ d (hx:c=N.size)=>?_;rcases d with d|d
     ·exact(i _ d).2.2.2.2 hx
     ·omega
    ·rcases d with d|d
     ·have:=A c d;omega
     ·omega
    ·rw[y.2 _ O (by rintro(d|d);exact(i _ d).1 rfl;omega)];exact g.2 _ O id
    ·rw[y.2 _ O (by rintro(d|d);exact(i _ d).2.1 rfl;omega)];exact g.2 _ O id
   ·refine⟨⟨B.trans g,g.bT D id,g.bT G id,sl,Q,g.bT C id,?_,λc d=>?_⟩,g.2 _ O id,g.2 _ O id⟩
    ·have:((Za b).take (k+1)).filter (jI H.sp)=((Za b).take k).filter (jI H.sp):=by
      rw[F,tT,uq (by rw[←hr,M];decide),List.filter_nil,kX]
     rw[this];exact K
    ·have:=A c d;omega
  ·refine cO (λh=>hJ _ _ ⟨rfl,by unfold jI;rw[h];rfl⟩) λh=>Dv z O O (hJ _ _ ⟨rfl,by unfold jI;rw[h];rfl⟩)
 ·rintro s ⟨B,D,G,sl,Q,C,E,A⟩ hD;rw[m7]at E;refine C.tx rfl (DR hD λw V=>?_);have hz:=V.1;refine hR sl w Q (Ext.dV B V λc d=>.inr O) (aI.bR E V λc _ Y d=>?_) λc d=>?_
  ·have:=A c Y;omega
  ·have:=A c d;omega
end Go.Ar
namespace Go.Ar
open Go Go.Vc Go.Proofs
open Go.Vc (bW dB cS)
variable {U w w':Hp}{F P Q X:Rg}{L:dH}{H H':Hw}{held:List Pc}{s0:Sp}{t n:Nat}{g:Th}{σ0:Hp}{addrs:Sl}{ad:List Int}{l:Sl}{ds:List fI}
theorem gV.push (p:gV σ0 U L H held s0 P Q addrs ad){s':Sl}{x:Int}(e:Ext Q U w)(hr:bS s' 1 (Wo (ad++[x])) w (λb=>Q b\/U.size<=b/\b<w.size))(hl:(ad++[x]).length<=60):gV σ0 w L H held s0 P (λb=>Q b\/U.size<=b/\b<w.size) s' (ad++[x]):=by
 have j:=e.1;have i:=p.e.1;refine⟨Ext.dV p.e e λb a=>.inr (p.pQ b a).1,p.h.bR e (λb a d g=>(p.pQ b g).2.2 d) (λb a=>p.g0.1 b (p.pQ b a).1) (λa=>p.g0.2 (p.pQ _ a).1),p.hi,p.cf,p.pg,λb a=>⟨(p.pP b a).1,by have:=(p.pP b a).2;omega⟩,λb a=>?_,hr,hl,p.g0⟩;rcases a with a|a
 ·exact⟨(p.pQ b a).1,by have:=(p.pQ b a).2.1;omega,(p.pQ b a).2.2⟩
 ·exact⟨O,a.2,λd=>by have:=(p.pP b d).2;omega⟩
theorem ED {tb:List bZ}{size align:Int}{k:Nat}(h:gJ tb size align=some k):∃c,tb[k]?=some c/\size<=(c.size:Int)/\(c.size:Int)%align=0:=by
 unfold gJ at h;obtain⟨b,a,_⟩:=m5.1 h;simp only[zF,zU,zS]at a;exact⟨tb[k],cV b,a.1,a.2⟩
theorem OJ {tb:List bZ}{size align:Int}(h:size<=16384/\Us size align=true):size<=(GH tb size align).1/\(GH tb size align).2=0:=by
 unfold GH;rw[zC h];refine⟨?_,rfl⟩;cases hc:gJ tb size align with
 | some k=>
  obtain⟨c,a,b,_⟩:=ED hc;simp only;rw[zO,a];exact b
 | none=>simp only;unfold xh;omega
theorem AF {live:List (Int×Bk)}{x:Int}(b:Bk):bW (dB live x b) x=some b:=by rw[V1,zC rfl]
end Go.Ar
namespace Go.Ar
open Go Go.Vc Go.Proofs
open Go.Vc (bW dB cS)
open Go.Bu (eU KP Uz)
variable {size align:Int}{U σ0 v w w':Hp}{F P Q X T:Rg}{L:dH}{H H' H1:Hw}{held:List Pc}{s0 sp:Sp}{t n:Nat}{g:Th}{gb km fm m:Nat}{x y:Gu}{b:B5}
theorem _root_.Go.Vc.bY.s2 {U:Hp}{b o i j:Nat}{cs:List Value}(hb:bY U b cs){v:Value}(ho:o+i+j<cs.length){K:aP}(hK:∀h',Qk U h' b->bY h' b (cs.set (o+i+j) v)->K h'):dX (Addr.add (Addr.add ⟨b,o,none⟩ i) j) v U K:=by
 rw[add_lit];exact hb.s1 ho hK
def Mg (P:Rg)(gb km fm:Nat):Rg:=λb=>P b\/b=gb\/b=km\/b=fm
def mV (size align:Int):Bool:=decide (1<=size/\size<=1024/\1<=align/\align<=256)&&eU align
def zA (align:Int):Int:=if 16>align then 16 else align
theorem vL {align:Int}(h:align<=256):16<=zA align/\zA align<=256:=by unfold zA;split<;>omega
structure yi (H:Hw) (x:Gu) (size align:Int) (b:B5) (H1:Hw):Prop where
 me:pJ H (zA align+YR size+16) (zA align) H1 b.2.2.1 0
 a:b.1=b.2.2.1+zA align
 s:b.2.1=size
 u:Ke H1 b.2.2.1=some b.2.2.2.1
 n:b.2.2.2.2=x.no+1
 ok:mV size align=true
 bi:gZ b
def j2 (sp:Sp)(b:B5):Sp:=j4 (j4 sp (Za b) jz) (Z9 b) λ_=>0
def Gu.eV (x:Gu)(b:B5):Gu:=⟨dB x.kn b.1 b,x.fr,x.no+1⟩
theorem Ax {a:Int}(h1:1<=a)(h2:a<=256)(hp:eU a=true):a%8=0\/a<8:=by
 by_cases h:a<8
 ·exact .inr h
 ·left;obtain⟨a,rfl⟩:=za (show 0<=a by omega);rw[KP]at hp;have key:∀a:Nat,a<=256->8<=a->(a &&& (a-1)=0)->a%8=0:=by decide +kernel
  have:=key a O O (by have:=Uz (a:=a) O O;rw[hp]at this;simpa using this);omega
theorem JR (hi:HI H1 held s0)(hok:mV size align=true){base:Int}(me:pJ H (zA align+YR size+16) (zA align) H1 base 0):∃u,Ke H1 base=some u/\gZ (base+zA align,size,base,u,x.no+1):=by
 unfold mV at hok;rw[zF,zU]at hok;obtain⟨⟨p,m,j,g⟩,kp⟩:=hok;have w:=vL g;have s:=Z5 (n:=size) O;rcases me with⟨h,_⟩|⟨_,hm,hok,cl,hl,hcl⟩
 ·exact absurd rfl h
 have e:Ke H1 base=some (GH H.tb (zA align+YR size+16) (zA align)).1:=by unfold Ke;rw[hl,AF];rfl
 have i:=(OJ (tb:=H.tb) ⟨hok.2.1,hok.2.2⟩).1;obtain⟨y,d,b⟩:=ot.1 e;have a:=hi.rJ (Vf d);simp only at a;rw[b]at a;have r:zA align%8=0:=by
  unfold zA;split
  ·decide
  ·rcases Ax j g kp with h|h
   ·exact h
   ·omega
 exact⟨_,e,⟨⟨p,m⟩,⟨a.2.1,a.2.2.1⟩,⟨by simp only;omega,by simp only;omega,by simp only;omega⟩,⟨by simp only;omega,a.2.2.2.1⟩,by simp only;omega⟩⟩
set_option maxRecDepth 16000 in
theorem Hl (p:GP σ0 U L H held s0 P gb km fm x)(gc:Gc σ0)(x0:0<=x.no/\x.no<=100000)(thread size align:Int){R:Int->Int->Hp->Prop}
 (h0:∀w,mV size align=false->bK U w->R 0 1 w)
 (h1:∀e w ts H' held' s0' P',mV size align=true->e≠0->Ua H thread 0 (zA align+YR size+16) (zA align) 0 H' 0 e->fY H H'->H'.live=H.live->Ext P U w->GP σ0 w {L with ts:=ts} H' held' s0' P' gb km fm x->(∀c,P' c->P c\/U.size<=c)->R 0 e w)
 (h2:∀b w ts H1 held' s0' P',yi H x size align b H1->Ua H thread 0 (zA align+YR size+16) (zA align) 0 H1 b.2.2.1 0->fY H H1->Ext (Mg P gb km fm) U w->GP σ0 w {L with ts:=ts} {H1 with sp:=j2 H1.sp b} held' s0' P' gb km fm (x.eV b)->(∀c,P' c->P c\/U.size<=c)->R b.1 0 w) :
 W8.c (aW gb) thread size align U R:=by
 refine W8.o ?_;unfold W8.v;rw[show(if(16:Int)>align then(16:Int)else align)=zA align from rfl]
 refine nw (cs:=[.pointer (some ⟨gb,0,none⟩)]) λv hz e hn4=>hn4.qP rfl (Ug (p.fr e) (cB rfl ?_));refine Q8 (λr u=>u=v/\r = !decide (1<=size/\size<=1024)) (λr u ⟨hu,hr⟩=>?_) λJ hJ=>cQ (λh=>hJ _ _ ⟨rfl,by rw[zM O];rfl⟩) λh=>hJ _ _ ⟨rfl,?_⟩
 ·rw[hu];refine Q8 (λr u=>u=v/\r = !decide (1<=size/\size<=1024/\1<=align)) (λr1 u1 ⟨hu1,hr1⟩=>?_) λJ1 hJ1=>?_
  ·rw[hu1];refine Q8 (λr u=>u=v/\r = !decide (1<=size/\size<=1024/\1<=align/\align<=256)) (λr2 u2 ⟨hu2,hr2⟩=>?_) λJ2 hJ2=>?_
   ·rw[hu2];refine Q8 (λr u=>u=v/\r = !mV size align) (λr3 u3 ⟨hu3,hr3⟩=>?_) λJ3 hJ3=>?_
    ·rw[hu3];clear hr hr1 hr2 hu hu1 hu2 hu3;by_cases hgk:mV size align=true
     ·refine cB (by rw[hr3,hgk];rfl) ?_;have hk:=hgk;unfold mV at hk;rw[zF,zU]at hk;obtain⟨⟨k1,k2,k3,k4⟩,kp⟩:=hk;have hzz:=vL k4;have hww:=Z5 (n:=size) O;refine nw (cs:=[.int .i64 0,.int .i64 0,.int .i64 0,.int .i64 0,.int .i64 0]) λv6 hz6 e6 b6=>?_;refine b6.s1 aA λv7 o7 b7=>b7.s1 aA λv8 o8 b8=>b8.s1 aA λv9 o9 b9=>b9.s1 aA λv10 gQ b10=>b10.s1 aA λv11 o11 b11=>?_;have bb:bY v11 v.size (eW (0,size,0,0,0)):=b11;have eo:Ext (· = v.size) v6 v11:=(((o7.ext.trans o8.ext).trans o9.ext).trans gQ.ext).trans o11.ext;have e11:bK v v11:=Ext.fresh e6 eo λi (hi:i=v.size)=>by omega
      have p11:=(p.fr e).fr e11;have X:=e11.bT hn4 id;have zv:U.size<v.size:=by omega
      have zb:=bb.lt;refine⟨λm=>bY m U.size [.pointer (some ⟨gb,0,none⟩)]/\bY m gb (rk L.p km fm x)/\bY m v.size (eW (0,size,0,0,0)),⟨X,p11.b,bb⟩,?_⟩;refine sF (c:=.p) (y:=some ⟨gb,0,none⟩) (λm G=>G.1) rfl (aG (iF (c:=.p) (y:=some ⟨L.p,0,none⟩) (λm G=>G.2.1) rfl ?_));refine iF (c:=bN) (y:=0) (λm G=>G.2.2) rfl (iF (c:=bN) (y:=size) (λm G=>G.2.2) rfl (iF (c:=bN) (y:=0) (λm G=>G.2.2) rfl (iF (c:=bN) (y:=0) (λm G=>G.2.2) rfl (iF (c:=bN) (y:=0) (λm G=>G.2.2) rfl ?_))));refine UU (0,size,0,0,0) aC aC λv12 A=>⟨⟨A.bT X id,A.bT p11.b id,A.bT bb id⟩,?_⟩;refine ar aC aC (ar aC aC ?_);have p12:=p11.fr A;have e012:=(e.trans e11).trans A;have z1112:=A.1;obtain⟨H',a,er,hw,o,me⟩:=Ig p.hi thread (zA align+YR size+16) (zA align);obtain⟨held',s0',hi'⟩:=o.hi;refine M4 Ep p12.h p12.cf.2.2 hw λv13 ts F h13=>?_;have B:=p12.step F h13 hi' o.kp;have z12:=e012.1;have z13:=F.1;have nP:∀c,U.size<=c->¬P c:=λc h1 h2=>by have:=(p.pP c h2).2;omega
      have W:=F.bT (A.bT X id) (nP _ (zD _));have bb13:=F.bT (A.bT bb id) (nP _ O);refine⟨⟨W,F.bT p12.b p.qJ.2,bb13⟩,?_⟩;generalize hP1:Cut (Grow P v12) v13=P1 at B;have E:∀c,P1 c->P c\/U.size<=c:=λc d=>by
       rw[←hP1]at d;exact d.1.imp id λh=>by omega
      have M:∀c,P1 c->c<v13.size:=λc d=>by rw[←hP1]at d;exact d.2
      have K:∀c,c<v12.size->¬P c->¬P1 c:=λc h1 h2 C=>by
       rw[←hP1]at C;rcases C.1 with h4|h4
       ·exact h2 h4
       ·omega
      have E13:Ext P U v13:=(bK.to e012).trans F;refine cO (λhne=>?_) λheq=>?_
      ·have hne':er≠0:=by simpa using hne
       rcases me with⟨_,ha,hl⟩|⟨h,_⟩
       ·subst ha;exact h1 er v13 ts H' held' s0' P1 hgk hne' hw o hl E13 B E
       ·exact absurd h hne'
      ·have he0:er=0:=by simpa using heq
       subst he0;obtain⟨u,hu,Y⟩:=JR (x:=x) (size:=size) (align:=align) hi' hgk me;obtain⟨b,g⟩:∃b:B5,b=(a+zA align,size,a,u,x.no+1):=⟨_,rfl⟩;rw[←g]at Y;have hbs:=Y.base;have hbm:=Y.m;have hbz:=Y.z;have hbt:=Y.t;have hb1:b.1=a+zA align:=by rw[g]
       have hb2:b.2.1=size:=by rw[g]
       rw[hb2]at hbt;have S:b.2.2.1=a:=by rw[g]
       have hb4:b.2.2.2.1=u:=by rw[g]
       rw[S]at hbs;have gr:yi H x size align b H':=⟨by rw[S];exact me,by rw[hb1,S],by rw[g],by rw[S,hb4];exact hu,by rw[g],hgk,Y⟩;have hgb13:=B.b.lt;have hvg:v.size≠gb:=λh=>by have:=p.b.lt;omega
       have hsg:U.size≠gb:=λh=>by have:=p.b.lt;omega
       have hvk:v.size≠km:=λh=>by have:=p.m.lt;omega
       have hsk:U.size≠km:=λh=>by have:=p.m.lt;omega
       have hvf:v.size≠fm:=λh=>by have:=p.f.lt;omega
       refine W.qP rfl (aG (B.b.rI rfl (ar O O (aG (B.b.s1 (by simp[rk]) λN D b14=>?_)))));have p14:GP σ0 N {L with ts:=ts} H' held' s0' P1 gb km fm {x with no:=x.no+1}:=B.fo (D.ext.sub λc d=>.inl d) b14 (D.ext.fR B.m λ(h:km=gb)=>p.n1 h.symm) (D.ext.fR B.f λ(h:fm=gb)=>p.n2 h.symm);have hn14:=D.ext.bT W hsg;have bb14:=D.ext.bT bb13 hvg;refine hn14.qP rfl (aG (p14.b.rI rfl (ar O O ?_)));refine bb14.s1 (by simp[eW]) λv15 o15 b15=>b15.s2 (by simp[eW]) λv16 o16 b16=>b16.s2 (by simp[eW]) λv17 o17 b17=>?_;have e17:Ext (· = v.size) N v17:=(o15.ext.trans o16.ext).trans o17.ext;have hout:∀c,c<N.size->c=v.size->¬P1 c/\c≠gb/\c≠km/\c≠fm/\σ0.size<=c:=λc _ d=>by
        subst d;have:=p.e.1;exact⟨K _ O (nP _ O),hvg,hvk,hvf,O⟩
       have p17:=p14.out e17 hout;have hn17:=e17.bT hn14 (show ¬U.size=v.size by omega);refine hn17.qP rfl (aG (p17.b.rP rfl (Fz p17.h a λv18 V=>?_)));rw[hu];refine(V.bT b17 id).s2 (by simp[eW]) λv19 o19 b19=>?_;have j:bY v19 v.size (eW b):=by rw[g];exact b19
       have p18:=p17.fr V;have z17:=o17.1;have z16:=o16.1;have z15:=o15.1;have z14:=D.1;have z18:=V.1;have z19:=o19.1;have p19:=p18.out o19.ext λc hc1 (d:c=v.size)=>by
        subst d;have:=p.e.1;exact⟨K _ O (nP _ O),hvg,hvk,hvf,O⟩
       have hn19:=o19.ext.bT (V.bT hn17 id) (show ¬U.size=v.size by omega);have E19:Ext (Mg P gb km fm) U v19:=by
        refine Ext.dV (((((E13.sub λc d=>.inl d).trans (D.ext.sub λc d=>.inr (.inl d))))):Ext (Mg P gb km fm) U N) (((e17.trans (bK.to V)).trans o19.ext):Ext (· = v.size) N v19) λc (d:c=v.size)=>.inr O
       refine j.rI rfl (j.rI rfl (j.rI rfl (j.rI rfl (j.rI rfl (FJ b λv20 hz20 Q b20=>?_)))));have p20:=p19.fr Q;have hn20:=Q.bT hn19 id;have bb20:=Q.bT j id;have z20:=Q.1;have E20:Ext (Mg P gb km fm) U v20:=E19.jL Q;refine⟨rfl,by kernel_rfl,Za b,_,λk s=>Ext (Mg P gb km fm) U s/\v20.size<=s.size/\bY s U.size [.pointer (some ⟨gb,0,none⟩)]/\bY s v.size (eW b)/\bY s v19.size (eW b)/\∃(s0':Sp) (P':Rg),GP σ0 s {L with ts:=ts} {H' with sp:=j4 H'.sp ((Za b).take k) jz} held' s0' P' gb km fm {x with no:=x.no+1}/\∀c,P' c->P1 c\/v20.size+2<=c,FM Y,?_,λk s h=>h.2.2.2.2.1,?_,?_,?_⟩
       ·rintro k s s' ⟨i1,i2,i3,Z,i5,s1',P',i6,i7⟩ es;have zs:=es.1;have nn:∀c,c<v20.size->¬(c=v20.size\/c=v20.size+1):=λc h=>by omega
        refine⟨Ext.dV i1 es λc d=>.inr O,O,es.bT i3 (nn _ O),es.bT Z (nn _ O),es.bT i5 (nn _ O),s1',P',i6.out es λc _ d=>?_,i7⟩;have:=p.e.1;have g1:=p.b.lt;have g2:=p.m.lt;have g3:=p.f.lt;refine⟨λhx=>?_,O,O,O,O⟩;rcases i7 c hx with h|h
        ·have:=M c h;omega
        ·omega
       ·exact⟨E20,zD _,hn20,bb20,b20,s0',P1,p20,λc d=>.inl d⟩
       ·rintro k (z:Int) hk s ⟨i1,i2,i3,Z,i5,s1',P',i6,i7⟩ hsz;have zi:=UJ Y (zG hk);have hzk:0<=z/\z<=1000000:=by
         have z1:=zi.1;have z2:=zi.2.2.1;have h0:=Y.base.1;omega
        have htk:(Za b).take (k+1)=(Za b).take k++[z]:=by rw[lI,hk];rfl
        have n7:∀c,c<v20.size+2->(¬P1 c)->¬P' c:=λc h1 h2 C=>(i7 c C).elim h2 λh=>by omega
        have q1:¬P1 U.size:=K _ O (nP _ (zD _));have q2:¬P1 v.size:=K _ O (nP _ O);have q3:∀c,v13.size<=c->¬P1 c:=λc h1 h2=>by have:=M c h2;omega
        refine⟨λm=>bY m U.size [.pointer (some ⟨gb,0,none⟩)]/\bY m gb (rk L.p km fm {x with no:=x.no+1}),⟨i3,i6.b⟩,sF (c:=.p) (y:=some ⟨gb,0,none⟩) (λm h=>h.1) rfl (aG (iF (c:=.p) (y:=some ⟨L.p,0,none⟩) (λm h=>h.2) rfl ?_))⟩;refine Dv z hzk.1 hzk.2 ⟨⟨i3,i6.b⟩,?_⟩;refine i6.write gc z (jz z) O λs2 s2' P2 e2 p2 hP2=>?_;have zs2:=e2.1;have i3':=e2.bT i3 (n7 _ O q1);refine⟨⟨i3',p2.b⟩,⟨Ext.dV i1 e2 λc d=>?_,O,i3',e2.bT Z (n7 _ O q2),e2.bT i5 (n7 _ O (q3 _ O)),s2',P2,?_,λc d=>?_⟩,e2.2 _ O (n7 _ O (q3 _ O)),e2.2 _ O (n7 _ O (q3 _ O))⟩
        ·rcases i7 c d with h|h
         ·exact(E c h).imp .inl id
         ·exact .inr O
        ·rw[htk,Ci];exact p2
        ·rcases hP2 c d with h|h
         ·exact i7 c h
         ·exact .inr O
       ·rintro s ⟨i1,i2,i3,Z,i5,s1',P',i6,i7⟩ hD;rw[m7]at i6;have n7:∀c,c<v20.size+2->(¬P1 c)->¬P' c:=λc h1 h2 C=>(i7 c C).elim h2 λh=>by omega
        have q1:¬P1 U.size:=K _ O (nP _ (zD _));have q2:¬P1 v.size:=K _ O (nP _ O);have q3:∀c,v13.size<=c->¬P1 c:=λc h1 h2=>by have:=M c h2;omega
        refine i3.qP rfl (Z.rI rfl (Z.rI rfl (Z.rI rfl (Z.rI rfl (Z.rI rfl (ER i6 gc Y 0 λs2 s2' P2 e2 p2 hP2=>?_))))));have zs2:=e2.1;have hlt:=(j3.1 hD).1;have i3':=e2.bT i3 (n7 _ O q1);have i4':=e2.bT Z (n7 _ O q2);have hS:∀m,(bY m U.size [.pointer (some ⟨gb,0,none⟩)]/\bY m gb (rk L.p km fm {x with no:=x.no+1})/\bY m v.size (eW b))->bY m v.size (eW b):=λm h=>h.2.2;refine⟨λm=>bY m U.size [.pointer (some ⟨gb,0,none⟩)]/\bY m gb (rk L.p km fm {x with no:=x.no+1})/\bY m v.size (eW b),⟨i3',p2.b,i4'⟩,sF (c:=.p) (y:=some ⟨gb,0,none⟩) (λm h=>h.1) rfl (aG (iF (c:=.m) (y:=some km) (λm h=>h.2.1) rfl ?_))⟩;refine oM (c:=bN) (y:=b.1) hS rfl (iF (c:=bN) (y:=b.1) hS rfl (iF (c:=bN) (y:=b.2.1) hS rfl (iF (c:=bN) (y:=b.2.2.1) hS rfl (iF (c:=bN) (y:=b.2.2.2.1) hS rfl (iF (c:=bN) (y:=b.2.2.2.2) hS rfl ⟨km,x.kn,rfl,p2.m,λs3 o3 m3=>?_⟩)))));have p3:GP σ0 s3 {L with ts:=ts} {H' with sp:=j2 H'.sp b} held' s2' P2 gb km fm (x.eV b):=p2.fo (y:=x.eV b) (o3.ext.sub λc d=>.inr (.inl d)) (o3.ext.bT p2.b p.n1) m3 (o3.ext.fR p2.f λ(h:fm=km)=>p.n3 h.symm);have zs3:=o3.1;have hkm:=p.m.lt;have hfm:=p.f.lt;have hgb:=p.b.lt;have hD3:s3[v20.size]?=some (.deferred (some [])):=(o3.2 _ O).trans ((e2.2 _ hlt (n7 _ O (q3 _ O))).trans hD);refine(o3.ext.bT i4' hvk).eZ rfl (DR hD3 λs4 e4=>?_);have hP2':∀c,P2 c->P c\/U.size<=c:=λc d=>by
         rcases hP2 c d with h|h
         ·rcases i7 c h with h|h
          ·exact E c h
          ·exact .inr O
         ·exact .inr O
        refine h2 b s4 ts H' held' s2' P2 gr (by rw[S];exact hw) o ?_ (p3.out e4 λc _ (d:c=v20.size)=>?_) hP2'
        ·have E1:Ext (Mg P gb km fm) U s2:=Ext.dV i1 e2 λc d=>by
          rcases i7 c d with h|h
          ·exact(E c h).imp .inl id
          ·exact .inr O
         have E2:Ext (Mg P gb km fm) U s3:=E1.trans (o3.ext.sub λc d=>.inr (.inr (.inl d)));exact Ext.dV E2 e4 λc (d:c=v20.size)=>.inr O
        ·subst d;have:=p.e.1;refine⟨λhx=>?_,O,O,O,O⟩;rcases hP2 _ hx with h|h
         ·exact n7 _ O (q3 _ O) h
         ·omega
     ·exact cD (by rw[hr3];simp[hgk]) (h0 v (by simpa using hgk) e)
    ·by_cases g:1<=size/\size<=1024/\1<=align/\align<=256
     ·refine cB (by rw[hr2,zJ g];rfl) (ar O O (hJ3 _ _ ⟨rfl,?_⟩));rw[Ns g.2.2.1 g.2.2.2];unfold mV;rw[zJ g];rfl
     ·refine cD (by rw[hr2,zM g];rfl) (hJ3 _ _ ⟨rfl,?_⟩);unfold mV;rw[zM g];rfl
   ·by_cases g:1<=size/\size<=1024/\1<=align
    ·refine cB (by rw[hr1,zJ g];rfl) (hJ2 _ _ ⟨rfl,?_⟩);by_cases C:align>256
     ·rw[zJ C,zM O];rfl
     ·rw[zM C,zJ O];rfl
    ·exact cD (by rw[hr1,zM g];rfl) (hJ2 _ _ ⟨rfl,by rw[zM O];rfl⟩)
  ·by_cases g:1<=size/\size<=1024
   ·refine cB (by rw[hr,zJ g];rfl) (hJ1 _ _ ⟨rfl,?_⟩);by_cases C:align<1
    ·rw[zJ C,zM O];rfl
    ·rw[zM C,zJ O];rfl
   ·exact cD (by rw[hr,zM g];rfl) (hJ1 _ _ ⟨rfl,by rw[zM O];rfl⟩)
 ·by_cases C:size>1024
  ·rw[zJ C,zM O];rfl
  ·rw[zM C,zJ O];rfl
end Go.Ar
namespace Go.Ar
open Go Go.Vc Go.Proofs Go.RowKit Go.Sort Go.Shelf Go.Lib
variable {U:Hp}{F Q:Rg}{s:Sl}{xs:List Int}
theorem R7 (hrow:bS s 1 (Wo xs) U F)(hlen:xs.length<=1000000){R:aP}(hR:∀ys w,ys.Perm xs->Ext F U w->bS s 1 (Wo ys) w F->R w):KJ.c s U R:=by
 rintro w rfl;have z:s.len=xs.length:=by have:=hrow.1;simp[Wo]at this;omega
 rcases hrow.2 with⟨h0,hc0⟩|⟨b,cs,hF,ha,hb,hle,hcl,ht⟩
 ·have L:xs=[]:=vQ.1 O;have:=AnyM.slices_Sort_int_none Tryz.qQ s.a s.cap w;show Calls _ _ #[.slice s.a s.len s.cap] w _;rw[h0];refine this.mono ?_;rintro e H ⟨rfl,rfl⟩;exact⟨.refl _,[],rfl,hR xs _ (.refl _) (Ext.refl _ _) hrow⟩
 ·have m:=hb.lt;have J:Holds (Value.int .i64) w b 0 xs.toArray:=by
   intro j hj;have p:j<xs.length:=by simpa using hj
   have G:Vc.cell w.heap ⟨b,0+j,none⟩=some (.int .i64 xs.toArray[j]!):=by
    rw[hb.cell,zH];have:(cs.take (Wo xs).length)[j]?=some (.int .i64 xs[j]):=by rw[ht];simp[Wo,p]
    rw[zj,zC (by simpa[Wo]using p)]at this;rw[this,getElem!_pos xs.toArray j hj];simp
   exact⟨G,hb.nf⟩
  have r:=AnyM.slices_Sort_int Tryz.qQ b 0 s.cap xs w J m O;show Calls _ _ #[.slice s.a s.len s.cap] w _;rw[ha,z];refine r.mono ?_;rintro e H ⟨rfl,n,os,rfl⟩;obtain⟨ys,i⟩:∃ys,ys=xs.mergeSort λx y=>decide (x<=y):=⟨_,rfl⟩;have D:ys.Perm xs:=by rw[i];exact List.mergeSort_perm _ _
  have E:ys.length=xs.length:=D.length_eq;rw[←i];obtain⟨N,A⟩:=hb;have d:(grow (putRow (Value.int .i64) (Sort.ahead w n) b 0 ys.toArray) os).heap=(w.heap.modify b (onCells (putCells (Value.int .i64) 0 ys.toArray)))++os:=rfl;have g:(w.heap.modify b (onCells (putCells (Value.int .i64) 0 ys.toArray))).size=w.heap.size:=by simp
  refine⟨⟨rfl,rfl,rfl,by rw[d,xu,g];omega⟩,[],rfl,?_⟩;rw[d];have u:Ext F w.heap ((w.heap.modify b (onCells (putCells (Value.int .i64) 0 ys.toArray)))++os):=by
   refine⟨by rw[xu,g];omega,λq M K=>?_⟩;rw[td (by rw[g];exact M),tW,zB λ(e:b=q)=>K (by rw[←e];exact hF)]
  refine hR ys _ D u ⟨by simp[Wo];omega,.inr ⟨b,(putCells (Value.int .i64) 0 ys.toArray cs.toArray).toList,hF,ha,⟨N,?_⟩,hle,?_,?_⟩⟩
  ·rw[td (by rw[g];exact m),tW,zC rfl,A];simp[onCells]
  ·simp[putCells,hcl]
  ·have C:(Wo ys).length=ys.length:=by simp[Wo]
   rw[C];apply zo;intro j;rw[zj];by_cases hj:j<ys.length
   ·rw[zC hj];have B:j<cs.length:=by omega
    simp only[putCells,uW,Array.getElem?_mapIdx,List.getElem?_toArray,cV B,zX];rw[zC ⟨O,by simpa using hj⟩];rw[Nat.sub_zero,getElem!_pos ys.toArray j (by simpa using hj)];simp[Wo,hj]
   ·rw[zB hj,zV O]
theorem CD {b:Nat}:∀(vs:List Value) {cs:List Value} {o i:Nat} {h:Hp} {K:aP},bY h b cs->o+i+vs.length<=cs.length->(∀h',Ext (· = b) h h'->K h')->nh ⟨b,o,none⟩ h vs i K
 | [],cs,o,i,h,K,_,_,hK=>hK h (Ext.refl _ _)
 | v::vs,cs,o,i,h,K,hb,hl,hK=>by
  have hl':o+i+(vs.length+1)<=cs.length:=hl;unfold nh;refine hb.s1 O λe o1 d=>CD vs d (by rw[nK];omega) λa e2=>hK a (o1.ext.trans e2)
theorem OU (hrow:bS s 1 (Wo xs) U F)(hlen:xs.length<=1000000){R:Sl->Hp->Prop}(hR:∀s' w,Ext F U w->(xs.length<=1->bS s' 1 (Wo xs) w F)->R s' w):WS.c s U R:=by
 refine WS.o ?_;unfold WS.v;have X:s.len=xs.length:=by have:=hrow.1;simp[Wo]at this;omega
 refine cQ (λh=>hR s U (Ext.refl _ _) λ_=>hrow) λY=>?_;have g:¬xs.length<=1:=by omega
 have p:∀s' w,Ext F U w->R s' w:=λs' w e=>hR s' w e λh=>(g h).elim;rcases hrow.2 with⟨h0,hc0⟩|⟨b,cs,hF,ha,hb,hle,hcl,ht⟩
 ·omega
 have d:∀j,j<s.len->∃v:Int,cs[j]?=some (.int .i64 v):=λj C=>by
  have:(cs.take (Wo xs).length)[j]?=some (.int .i64 (xs[j]' O)):=by rw[ht];simp[Wo,show j<xs.length by omega]
  rw[zj,zC (by simp[Wo];omega)]at this;exact⟨_,this⟩
 have x:∀{w},Ext (· = b) U w->Ext F U w:=λe=>e.sub λc (E:c=b)=>by rw[E];exact hF
 have rd:∀{u:Hp} {cs':List Value} {j o:Nat} {K:Int->Prop},bY u b cs'->(∃v:Int,cs'[o+j]?=some (.int .i64 v))->(∀v,K v)->gA .i64 (Addr.add ⟨b,o,none⟩ j) u K:=λr ⟨v,M⟩ S=>r.rI M (S v);have A:∀n:Nat,((List.replicate n [Value.int .i64 0]).flatten).length=n:=λn=>by simp
 rw[ha];refine ZS (a:=bN) (λ(z:Int) w=>w=U/\∃k:Nat,z=k/\1<=k/\k<=s.len) (λz _=>s.len-z.toNat) ⟨rfl,1,rfl,O,O⟩ ?_;rintro(z:Int) w ⟨rfl,k,rfl,h1,hk⟩;refine cQ (λG=>?_) λL=>p s w (Ext.refl _ _);have H:k<s.len:=by omega
 refine ix O O (rd hb (by rw[zH];exact d _ O) λQ=>ar O O (ix O O (rd hb (by rw[zH];exact d _ O) λV=>cO (λ_=>?_) λ_=>cP (m:=k+1) O O ⟨⟨rfl,k+1,rfl,O,O⟩,O⟩)));refine iU (s:=s) (sz:=1) (lo:=k) (hi:=s.len) (mx:=s.cap) O hle (zD _) ?_;rw[zB (show ¬s.cap=k by omega),ha];simp only[zX];refine UO (a:=bN) (bb:=bN) (λ(y z:Int) u=>∃(k1 k2:Nat) (cs':List Value),y=k1/\z=k2/\1<=k2/\k2<=s.len-k/\k<=k1/\k1<=k+k2-1/\Ext (· = b) w u/\bY u b cs'/\cs'.length=s.cap/\∀j,j<s.len->∃v:Int,cs'[j]?=some (.int .i64 v)) (λ_ z _=>(s.len-k)-z.toNat)
  ⟨k,1,cs,rfl,rfl,O,O,O,O,Ext.refl _ _,hb,O,d⟩ ?_
 rintro(y:Int) (z:Int) u ⟨k1,k2,cs',rfl,rfl,g1,g2,g3,g4,eu,hbu,hcl',hin⟩;refine cQ (λB=>?_) λD=>?_
 ·have N:k2<s.len-k:=by omega
  have e1:∀j:Nat,Addr.add (Addr.add ⟨b,0,none⟩ (k*1)) j=Addr.add ⟨b,k,none⟩ j:=λj=>by rw[add_lit,add_lit,add_lit];congr 1;omega
  refine ix O O ?_;rw[e1];refine rd hbu (hin _ O) λQ=>ar O O (ix O O ?_);rw[e1];refine rd hbu (hin _ O) λV=>cO (λ_=>?_) λ_=>cP (m:=k2+1) O O ⟨⟨k1,k2+1,cs',rfl,rfl,O,O,O,O,eu,hbu,hcl',hin⟩,O⟩;refine ix O O ?_;rw[e1];refine rd hbu (hin _ O) λv3=>ix O O (hbu.s1 O λZ o2 P=>cP (m:=k1+1) O O (cP (m:=k2+1) O O ⟨⟨k1+1,k2+1,_,rfl,rfl,O,O,O,O,eu.trans o2.ext,P,by rw[nK];exact hcl',λj C=>?_⟩,O⟩));rw[mA];split
  ·rw[zC O];exact⟨v3,rfl⟩
  ·exact hin j C
 ·refine iU (s:=s) (sz:=1) (lo:=k1) (hi:=s.len) (mx:=s.cap) O hle (zD _) ?_;rw[zB (show ¬s.cap=k1 by omega),ha];simp only[zX];refine⟨by simp[dQ],?_⟩;simp only[add_lit];refine CD _ hbu ?_ λW J=>?_
  ·rw[A];omega
  ·refine iU (s:=s) (sz:=1) (lo:=0) (hi:=k1) (mx:=s.cap) O O (zD _) ?_;exact p _ W (x (eu.trans J))
end Go.Ar
namespace Go.Ar
open Go Go.Vc Go.Proofs
open Go.Vc (bW dB cS)
variable {size align:Int}{U σ0 v w w':Hp}{F P Q X T:Rg}{L:dH}{H H' H1:Hw}{held:List Pc}{s0 sp:Sp}{t n:Nat}{g:Th}{gb km fm m:Nat}{x y:Gu}{b:B5}
def FF:Int:=-1234567
def lZ (H:Hw)(x:Gu)(thread addr:Int)(whole:Bool):Int:=
 if QU H thread≠0 then QU H thread else match bW x.kn addr with
 | none=>if(bW x.fr addr).getD false then 9 else 8
 | some b=>if Uu H b then 5 else if whole&&decide (0<(Ki H.sp b).length)then 10 else 0
def Gu.gone (x:Gu)(addr:Int):Gu:=⟨cS x.kn addr,dB x.fr addr true,x.no⟩
def iw (H:Hw)(b:B5):Hw:={H with sp:=j4 H.sp (Z9 b) λ_=>FF}
set_option maxRecDepth 16000 in
theorem Gz (p:GP σ0 U L H held s0 P gb km fm x)(gc:Gc σ0)(xi:∀e∈x.kn,e.1=e.2.1/\gZ e.2)(thread addr:Int)(whole:Bool){R:aN}
 (h0:∀w,lZ H x thread addr whole≠0->bK U w->R (lZ H x thread addr whole) w)
 (h1:∀b w ts H1 held' s0' P' e,bW x.kn addr=some b->lZ H x thread addr whole=0->Ua (iw H b) thread 1 0 0 b.2.2.1 H1 0 e->fY (iw H b) H1->oS (iw H b) thread b.2.2.1 H1 e->Ext (Mg P gb km fm) U w->GP σ0 w {L with ts:=ts} H1 held' s0' P' gb km fm (x.gone addr)->(∀c,P' c->P c\/U.size<=c)->R 0 w) :
 XT.c (aW gb) thread addr whole U R:=by
 refine XT.o ?_;unfold XT.v;refine Ug p (cB rfl (Po p thread λC e1=>?_));have p1:=p.fr e1;refine cO (λhne=>?_) λZ=>?_
 ·have hn:QU H thread≠0:=by simpa using hne
  have he:lZ H x thread addr whole=QU H thread:=by unfold lZ;rw[zC hn]
  have:=h0 C (by rw[he];exact hn) e1;rw[he]at this;exact this
 have hrd:QU H thread=0:=by simpa using Z
 have a:lZ H x thread addr whole=match bW x.kn addr with
  | none=>if(bW x.fr addr).getD false then 9 else 8
  | some b=>if Uu H b then 5 else if whole&&decide (0<(Ki H.sp b).length)then 10 else 0:=by
  unfold lZ;rw[zB (by rw[hrd];decide)]
 refine aG (p1.b.rM rfl ⟨x.kn,p1.m,?_⟩);refine nw (cs:=[.int .i64 0,.int .i64 0,.int .i64 0,.int .i64 0,.int .i64 0]) λv2 hz2 e2 b2=>b2.s1 aA λv3 o3 b3=>b3.s1 aA λv4 o4 b4=>b4.s1 aA λv5 o5 b5=>b5.s1 aA λv6 o6 b6=>b6.s1 aA λv7 o7 b7=>?_;have eo:Ext (· = C.size) v2 v7:=(((o3.ext.trans o4.ext).trans o5.ext).trans o6.ext).trans o7.ext;have e17:bK C v7:=Ext.fresh e2 eo λi (hi:i=C.size)=>by omega
 have E:=e1.trans e17;have p7:=p.fr E;have d:bY v7 C.size (eW ((bW x.kn addr).getD (0,0,0,0,0))):=b7;cases hk:bW x.kn addr with
 | none=>
  rw[hk]at a;simp only at a;refine Q8 (λr u=>u=v7/\r=(bW x.fr addr).getD false) (λr u ⟨hu,K⟩=>?_) λJ N=>cD rfl (aG (p7.b.rM rfl ⟨x.fr,p7.f,N _ _ ⟨rfl,rfl⟩⟩));rw[hu];refine cO (λh=>?_) λh=>cD rfl ?_
  ·rw[←K,h]at a;have:=h0 v7 (by rw[a];decide) E;rw[a]at this;exact this
  ·rw[←K,h]at a;have:=h0 v7 (by rw[a];decide) E;rw[a]at this;exact this
 | some b=>
  rw[hk]at a d;simp only at a;have d:bY v7 C.size (eW b):=d;have G:gZ b:=(xi _ (Vf hk)).2;refine Q8 (λr u=>u=v7/\r=false) (λr u ⟨hu,K⟩=>?_) λJ N=>cB rfl (N _ _ ⟨rfl,rfl⟩);rw[hu];refine cB K (cB rfl (d.rI rfl (d.rI rfl (d.rI rfl (d.rI rfl (d.rI rfl (UL p7 b λv9 e9=>?_)))))));have D:=E.trans e9;have p9:=p.fr D;have j:=e9.bT d id;refine cO (λhl=>?_) λhl=>?_
  ·rw[zC hl]at a;have:=h0 v9 (by rw[a];decide) D;rw[a]at this;exact this
  rw[zB (by rw[hl];decide)]at a;refine Q8 (λr u=>bK U u/\bY u C.size (eW b)/\r=(whole&&decide (0<(Ki H.sp b).length))) (λr u ⟨F,B,K⟩=>?_) λJ N=>cO (λM=>?_) λM=>N _ _ ⟨D,j,by rw[M];rfl⟩
  ·refine cO (λh=>?_) λh=>?_
   ·rw[←K,zC h]at a;have:=h0 u (by rw[a];decide) F;rw[a]at this;exact this
   ·rw[←K,zB (by rw[h];decide)]at a;have pu:=p.fr F;have zu:=F.1;have z1:=e1.1;refine B.rI rfl (B.rI rfl (B.rI rfl (B.rI rfl (B.rI rfl (ER pu gc G (-1234567) λu1 X P1 ef S Y=>?_)))));have nP:¬P C.size:=λhx=>by have:=(p.pP _ hx).2;omega
    have hb1:=ef.bT B nP;have zf:=ef.1;refine aG (S.b.rM rfl ⟨x.kn,S.m,λu2 o2 _ m2=>?_⟩);have o2:=o2 km rfl;have W:GP σ0 u2 L (iw H b) held X P1 gb km fm ⟨cS x.kn addr,x.fr,x.no⟩:=S.fo (y:=⟨cS x.kn addr,x.fr,x.no⟩) (o2.ext.sub λc g=>.inr (.inl g)) (o2.ext.bT S.b p.n1) m2 (o2.ext.fR S.f λ(h:fm=km)=>p.n3 h.symm);refine aG (W.b.rM rfl ⟨fm,x.fr,rfl,W.f,λu3 A m3=>?_⟩);have V:GP σ0 u3 L (iw H b) held X P1 gb km fm (x.gone addr):=W.fo (y:=x.gone addr) (A.ext.sub λc g=>.inr (.inr g)) (A.ext.bT W.b p.n2) (A.ext.fR W.m p.n3) m3;have hkm:=p.m.lt;have hfm:=p.f.lt;have hb3:=A.ext.bT (o2.ext.bT hb1 (show ¬C.size=km by omega)) (show ¬C.size=fm by omega);obtain⟨H',er,M,o,fe⟩:=LM V.hi thread b.2.2.1 (by have:=G.base;have:=G.m;have:=G.t;have:=G.z;have:=G.s;have:=Z5 (n:=b.2.1) O;unfold iC;omega);obtain⟨held',s0',hi'⟩:=o.hi;refine aG (V.b.rP rfl (hb3.eZ rfl (RZ Ep V.h V.cf.2.2 M λu4 ts e4 h4=>?_)));have p5:=V.step e4 h4 hi' o.kp;have z2:=o2.1;have z3:=A.1;have z4:=e4.1;refine h1 b u4 ts H' held' s0' _ er hk a M o fe ?_ p5 λc g=>?_
    ·have E1:Ext (Mg P gb km fm) U u1:=(bK.to F).trans (ef.sub λc g=>.inl g);have E3:Ext (Mg P gb km fm) U u3:=(E1.trans (o2.ext.sub λc g=>.inr (.inr (.inl g)))).trans (A.ext.sub λc g=>.inr (.inr (.inr g)));exact Ext.dV E3 e4 λc g=>(Y c g).imp .inl λh=>by omega
    ·rcases g.1 with g|g
     ·exact(Y c g).imp id λh=>by omega
     ·exact .inr O
  ·refine j.rI rfl (j.rI rfl (j.rI rfl (j.rI rfl (j.rI rfl (Hs p9 G λs u Q F hs hQ=>N _ _ ⟨D.trans F,F.bT j id,?_⟩)))));have:s.len=(Ki H.sp b).length:=by have:=hs.1;simp[Wo]at this;omega
   rw[M,this,pV,lO,decide_eq_true_iff,decide_eq_true_iff];omega
def yR (H:Hw)(x:Gu)(addr:Int):Int:=match bW x.kn addr with
 | none=>8
 | some b=>if Uu H b then 5 else 0
def Br (H:Hw)(x:Gu)(addr:Int):List Int:=match bW x.kn addr with
 | none=>[]
 | some b=>if Uu H b then[]else Ki H.sp b
set_option maxRecDepth 16000 in
theorem FK (p:GP σ0 U L H held s0 P gb km fm x)(xi:∀e∈x.kn,e.1=e.2.1/\gZ e.2)(addr:Int){R:Sl->Int->Hp->Prop}
 (hR:∀s w Q,bK U w->bS s 1 (Wo (Br H x addr)) w Q->(∀c,Q c->U.size<=c/\c<w.size)->R s (yR H x addr) w):Xz.c (aW gb) addr U R:=by
 refine Xz.o ?_;unfold Xz.v;refine Ug p (cB rfl (aG (p.b.rM rfl ⟨x.kn,p.m,?_⟩)));refine nw (cs:=[.int .i64 0,.int .i64 0,.int .i64 0,.int .i64 0,.int .i64 0]) λK D e2 F=>F.s1 aA λv3 o3 V=>V.s1 aA λv4 o4 J=>J.s1 aA λv5 o5 E=>E.s1 aA λv6 o6 X=>X.s1 aA λv7 o7 M=>?_;have C:Ext (· = U.size) K v7:=(((o3.ext.trans o4.ext).trans o5.ext).trans o6.ext).trans o7.ext;have r:bK U v7:=Ext.fresh e2 C λi (Z:i=U.size)=>by omega
 have W:=p.fr r;have a:bY v7 U.size (eW ((bW x.kn addr).getD (0,0,0,0,0))):=M;have nil:∀w,bS ⟨none,0,0⟩ 1 (Wo []) w (λ_=>False):=λw=>⟨rfl,.inl ⟨rfl,rfl⟩⟩;unfold yR Br at hR;cases hk:bW x.kn addr with
 | none=>
  rw[hk]at hR;exact cD rfl (hR _ v7 _ r (nil _) λc h=>h.elim)
 | some b=>
  rw[hk]at a hR;simp only at hR;have a:bY v7 U.size (eW b):=a;have G:gZ b:=(xi _ (Vf hk)).2;refine cB rfl (a.rI rfl (a.rI rfl (a.rI rfl (a.rI rfl (a.rI rfl (UL W b λB y=>?_))))));have g:=r.trans y;have N:=p.fr g;have d:=y.bT a id;refine cO (λj=>?_) λj=>?_
  ·rw[j]at hR;exact hR _ B _ g (nil _) λc h=>h.elim
  ·rw[j]at hR;refine d.rI rfl (d.rI rfl (d.rI rfl (d.rI rfl (d.rI rfl (Hs N G λs u Q S Y z=>?_)))));have:=g.1;exact hR s u Q (g.trans S) Y λc A=>by have:=z c A;omega
theorem Em {α:Type}{n:Int}{x:α}:∀{l:List (Int×α)},(l.map (·.1)).Nodup->(n,x)∈l->l.Perm ((n,x)::l.filter λy=>!(y.1==n))
 | [],_,h=>by simp at h
 | z::l,hn,h=>by
  simp only[zT,zr]at hn;rcases zW.1 h with h1|h1
  ·subst h1;have:l.filter (λy=>!(y.1==n))=l:=by
    rw[po];intro y hy;have:y.1≠n:=λe=>hn.1 (zE.2 ⟨y,hy,e⟩);simpa using this
   rw[uq aA,this]
  ·have a:z.1≠n:=λe=>hn.1 (zE.2 ⟨_,h1,e.symm⟩);rw[tE (by simpa using a)];exact((Em hn.2 h1).cons z).trans (List.Perm.swap _ _ _)
theorem bS.sq {h:Hp}{s y:Sl}{sz bytes e:Nat}{zs xs:List Value}{K:Sl->Hp->Prop}(ho:bS s sz xs h F)(hy:y.len=0)(hb:s.len*bytes<=2^46)(hc:s.len<=2^62)(hK:K s h):App s sz bytes e zs y h K:=by
 refine⟨xs,[],ho.1,by rw[hy];simp,ho.rd,?_,by simp,by rw[hy];exact hb,by rw[hy];exact hc,λd=>?_,λb=>?_⟩
 ·unfold Rd;split
  ·rfl
  ·intro j v hv;simp at hv
 ·rw[hy];cases ha:s.a with
  | some a=>simp only[nh];rw[←ha];exact hK
  | none=>simp only;rw[←ha];exact hK
 ·exfalso;rw[hy]at b;rcases ho.2 with⟨h1,h2⟩|⟨_,_,_,_,_,h3,_⟩<;>omega
theorem AI {s y:Sl}{xs ys:List Int}{e:Nat}{K:Sl->Hp->Prop}(hr:bS s 1 (Wo xs) U F)(hy:bS y 1 (Wo ys) U Q)(hl:xs.length+ys.length<=10000000)(hK:∀s' w,Ext F U w->bS s' 1 (Wo (xs++ys)) w (λc=>F c\/U.size<=c/\c<w.size)->K s' w):App s 1 8 e [.int .i64 0] y U K:=by
 have a:s.len=xs.length:=by have:=hr.1;simp[Wo]at this;omega
 have u:y.len=ys.length:=by have:=hy.1;simp[Wo]at this;omega
 by_cases h0:y.len=0
 ·have b:ys=[]:=vQ.1 O;subst b;refine bS.sq hr h0 O O (hK s U (Ext.refl _ _) ?_);rw[kX];exact aI.mono hr λc _ r=>.inl r
 ·refine hr.app (ys:=Wo ys) rfl (by simp[Wo];omega) hy.rd (λv d=>?_) O O O λs' w i j g=>hK s' w j ?_
  ·unfold Wo at d;obtain⟨z,_,rfl⟩:=zE.1 d;rfl
  ·have:Wo (xs++ys)=Wo xs++Wo ys:=by simp[Wo]
   rw[this];refine aI.mono (aI.cut g) λc p m=>?_;rcases m.1 with a|a
   ·exact .inl a
   ·exact .inr ⟨a,p⟩
def nT (H:Hw)(e:Int×B5):List Int:=if Uu H e.2 then[]else Ki H.sp e.2
def pq (H:Hw)(x:Gu):List Int:=x.kn.flatMap (nT H)
set_option maxRecDepth 16000 in
theorem Pg (p:GP σ0 U L H held s0 P gb km fm x)(xi:∀e∈x.kn,e.1=e.2.1/\gZ e.2)(hsw:(pq H x).length<=1000000){R:Sl->Hp->Prop}
 (hR:∀s w,bK U w->((pq H x).length<=1->∃Q,bS s 1 (Wo (pq H x)) w Q/\∀c,Q c->U.size<=c/\c<w.size)->R s w):Yl.c (aW gb) U R:=by
 refine Yl.o ?_;unfold Yl.v;refine Ug p (cB rfl (aG (p.b.rM rfl ?_)));refine tf (a:=.s) p.m (λd (out:Sl) u=>bK U u/\U.size<u.size/\(∀e∈d,e∈x.kn)/\(d.map (·.1)).Nodup/\∃(l:List Int) (Q:Rg),bS out 1 (Wo l) u Q/\(∀c,Q c->U.size+1<=c/\c<u.size)/\(l++d.flatMap (nT H)).Perm (pq H x)) (λv hv ev=>⟨ev,O,λe he=>he,p.m.nodup,[],λ_=>False,⟨rfl,.inl ⟨rfl,rfl⟩⟩,λc h=>h.elim,List.Perm.refl _⟩) ?_ ?_
 ·rintro(out:Sl) u ⟨eu,hlt,_,_,l,Q,hr,G,S⟩;rw[List.flatMap_nil,kX]at S;have N:l.length<=1000000:=by rw[S.length_eq];exact hsw
  have zu:=eu.1;refine R7 hr N λys u2 X e2 hr2=>OU hr2 (by rw[X.length_eq];exact N) λs' u3 e3 ab=>?_;have E3:bK U u3:=Ext.fresh eu (e2.trans e3) λc j=>by have:=G c j;omega
  refine hR s' u3 E3 λh1=>⟨Q,?_,λc j=>?_⟩
  ·have Z:ys.length<=1:=by rw[X.length_eq,S.length_eq];exact h1
   have:ys=pq H x:=by
    have hq:=X.trans S
    match ys,hq with
    | [],hq=>exact(List.nil_perm.1 hq).symm
    | [a],hq=>exact(List.singleton_perm.1 hq)
    | _::_::_,_=>simp at Z
   rw[this]at ab Z;exact ab Z
  ·have:=G c j;have:=e2.1;have:=e3.1;omega
 ·rintro d k (b:B5) (out:Sl) u u' J ⟨eu,hlt,F,hnd,l,Q,hr,G,S⟩ M o1 hs1 hJ;have bi:gZ b:=(xi _ (F _ M)).2;have zu:=eu.1;have hpt:=Em hnd M;have hQn:∀c,Q c->¬c=U.size:=λc j=>by have:=G c j;omega
  have W:bK U u':=Ext.fresh eu o1.ext λc (j:c=U.size)=>by omega
  have hr':=aI.bR hr o1.ext λc _ j=>hQn c j;have hz':=o1.1;refine nw (cs:=[.int .i64 0,.int .i64 0,.int .i64 0,.int .i64 0,.int .i64 0]) λv2 hz2 e2 b2=>b2.s1 aA λv3 o3 b3=>b3.s1 aA λv4 o4 b4=>b4.s1 aA λv5 o5 b5=>b5.s1 aA λv6 o6 b6=>b6.s1 aA λv7 o7 b7=>?_;have eo:Ext (· = u'.size) v2 v7:=(((o3.ext.trans o4.ext).trans o5.ext).trans o6.ext).trans o7.ext;have e7:bK u' v7:=Ext.fresh e2 eo λi (hi:i=u'.size)=>by omega
  have A:bY v7 u'.size (eW b):=b7;have p7:=(p.fr W).fr e7;refine A.rI rfl (A.rI rfl (A.rI rfl (A.rI rfl (A.rI rfl (UL p7 b λv9 e9=>?_)))));have D:=e9.bT A id;have z:=e7.trans e9;have p9:=p7.fr e9;have hkm:=p.m.lt;have E:∀{w:Hp},bK u' w->w[U.size]?=u'[U.size]?/\w[km]?=u'[km]? := λe=>⟨e.2 _ O id,e.2 _ O id⟩;have C:∀e∈d.filter (λy=>!(y.1==k)),e∈x.kn:=λe he=>F e (zI.1 he).1;have K:((d.filter (λy=>!(y.1==k))).map (·.1)).Nodup:=hnd.sublist (List.filter_sublist.map _);refine cO (λhnl=>?_) λhl=>?_
  ·have V:Uu H b=false:=by simpa using hnl
   have Y:nT H (k,b)=Ki H.sp b:=by unfold nT;rw[V];rfl
   refine D.rI rfl (D.rI rfl (D.rI rfl (D.rI rfl (D.rI rfl (Hs p9 bi λs u10 Q2 e10 hs hQ2=>?_)))));have r:=z.trans e10;have hr10:=aI.bO hr' r;have g:((l++Ki H.sp b)++(d.filter (λy=>!(y.1==k))).flatMap (nT H)).Perm (pq H x):=by
    refine List.Perm.trans ?_ S;rw[zz];refine List.Perm.append_left l ?_;have:=hpt.flatMap_right (nT H);rw[p8,Y]at this;exact this.symm
   have N:l.length+(Ki H.sp b).length<=1000000:=by
    have:=g.length_eq;rw[zP,zP]at this;omega
   refine AI hr10 hs O λout1 u11 B hr11=>?_;have z10:=r.1;have aa:∀c,c<=U.size->¬Q c:=λc h1 Z=>by have:=G c Z;omega
   refine hJ out1 u11 ?_ ?_ ⟨Ext.fresh (W.trans r) B λc j=>by have:=G c j;omega,by have:=B.1;omega,C,K,l++Ki H.sp b,_,hr11,λc j=>?_,g⟩
   ·rw[B.2 _ O (aa _ (zD _))];exact(E r).1
   ·rw[B.2 _ O (aa _ O)];exact(E r).2
   ·have z11:=B.1;rcases j with j|j
    ·have:=G c j;omega
    ·omega
  ·have V:Uu H b=true:=by simpa using hl
   have Y:nT H (k,b)=[]:=by unfold nT;rw[V];rfl
   have g:(l++(d.filter (λy=>!(y.1==k))).flatMap (nT H)).Perm (pq H x):=by
    refine List.Perm.trans ?_ S;refine List.Perm.append_left l ?_;have:=hpt.flatMap_right (nT H);rw[p8,Y]at this;exact this.symm
   have z9:=z.1;exact hJ out v9 (E z).1 (E z).2 ⟨W.trans z,O,C,K,l,Q,aI.bO hr' z,λc j=>by have:=G c j;omega,g⟩
end Go.Ar
namespace Go.Proofs
open Go.Shelf
end Go.Proofs
namespace Go.Ar
open Go Go.Vc Go.Proofs Go.RowKit Go.Maps Go.Sort Go.Shelf
open Go.Vc (bW dB cS)
open Go.Bu (mH Gx Uk Gb VM)
variable {U w w':Hp}{F P Q X S:Rg}{L:dH}{H H':Hw}{held:List Pc}{s0 sp:Sp}{t n:Nat}{g:Th}{σ0:Hp}
end Go.Ar
namespace Go.Proofs
open Go.Shelf
end Go.Proofs
namespace Go.Proofs
open Go.Vc
set_option maxRecDepth 100000
def XR.h:Hn:=.q .o1 (.q .o6 .l)
def XR.v (a:Int)(b:Hp)(c:aN):Prop:=bL (a+8) λd=>bL (d-1) λe=>Nz 8<|bL (e.tdiv 8) λf=>bL (f*8) λg=>c g b
theorem XR.o {a b c}(d:XR.v a b c):XR.c a b c:=Wa Tryz.func15 (x:=XR.h) (R0 d)
def XL.h:Hn:=.q .o1 (.q (.q .o5 .aK) (.q (.q .o1 (.k (.loop [(5,.I)] (.q (.q .o4 (.c .l .l)) (.q (.k (.q (.oq 9) .aK)) .o3))))) .aM))
def XL.v (a b:Sl)(c:Hp)(d:aO):Prop:=If (((a.len:Nat):Int) != ((b.len:Nat):Int)) (d false c) (Yp [bN] (λe=>e 0 c) λf (g:Int) h=>If (g<((a.len:Nat):Int)) (Ix a.a a.len g 1 λi=>bM i h λj=>Ix b.a b.len g 1 λk=>bM k h λl=>If (j != l) (d false h) (bL (g+1) λm=>f m h)) (d true h))
theorem XL.o {a b c d}(e:XL.v a b c d):XL.c a b c d:=Wa Tryz.func30 (x:=XL.h) (R0 e)
end Go.Proofs
namespace Go.Ar
open Go Go.Vc Go.Proofs Go.RowKit Go.Maps Go.Sort Go.Shelf
open Go.Vc (bW dB cS)
open Go.Bu (mH Gx Uk Gb VM)
variable {size align:Int}{U σ0 v w w':Hp}{F P Q X T:Rg}{L:dH}{H H' H1:Hw}{held:List Pc}{s0 sp:Sp}{t n:Nat}{g:Th}{gb km fm m:Nat}{x y:Gu}{b:B5}
theorem A3 {k:IntKind}{c:CK}{l:List (Int×c.T)}{r:Nat}{a a':CK}{x0:a.T}{y0:a'.T}{A:a.T->a'.T->Hp->Prop}{body:Int->c.T->a.T->a'.T->Hp->(a.T->a'.T->Hp->Prop)->Prop}(hm:dL U r k c l)(I:List (Int×c.T)->a.T->a'.T->Hp->Prop)
 (h0:∀v,v.size=U.size+1->bK U v->I l x0 y0 v)
 (hend:∀z y v,I [] z y v->A z y v)
 (hstep:∀todo n x z y v v' (J:a.T->a'.T->Hp->Prop),I todo z y v->(n,x)∈todo->Qk v v' U.size->U.size<v.size->(∀z' y' w,w[U.size]?=v'[U.size]?->w[r]?=v'[r]?->I (todo.filter λy=>!(y.1==n)) z' y' w->J z' y' w)->body n x z y v' J) :
 nC k c (some r) U λit v3=>Yp [a,a'] (λI=>I x0 y0 v3) λJ1 z y v4=>nF k c it v4 (A z y v4) λ_ _ v5=>nJ k c it v5 λkey1 val1=>body key1 val1 z y v5 J1:=by
 refine⟨l,hm,λv G P H=>?_⟩;have K:bK U v:=⟨O,λb j _=>P b j⟩;refine UO (a:=a) (bb:=a') (λz y w=>∃todo d,It w U.size k c (some r) l todo d/\I todo z y w/\U.size<w.size) (λ_ _ w=>vv w U.size r) ⟨l,none,H,h0 v G K,O⟩ ?_;rintro z y w ⟨todo,d,i,C,s⟩;refine⟨rfl,some r,l,todo,d,i,λQ=>?_,λn x E M F g=>?_⟩
 ·subst Q;exact hend z y w C
 ·refine⟨rfl,some r,l,_,n,x,g,hstep todo n x z y w M _ C E F s λz' y' u p B m=>?_⟩;have e:=g.bR p B;refine⟨⟨_,_,e,m,?_⟩,?_⟩
  ·obtain⟨R,N,D,L,_⟩:=e;exact(j3.1 L).1
  ·rw[e.num,i.num];exact Bs.2 ⟨(n,x),E,by simp⟩
def lp (ofV:B5->Int)(addr:Int)(b:B5):Prop:=b.1<=addr/\addr<b.1+ofV b
instance (ofV:B5->Int) (addr:Int) (b:B5):Decidable (lp ofV addr b):=by unfold lp;infer_instance
set_option maxRecDepth 16000 in
theorem Di (p:GP σ0 U L H held s0 P gb km fm x)(xi:∀e∈x.kn,e.1=e.2.1/\gZ e.2)(addr:Int){ofv:Fv}{ofV:B5->Int}(hov:∀b,gZ b->0<=ofV b/\ofV b<=100000)
 (hof:∀(b:B5) (u:Hp) (K:aN),gZ b->(∀u',bK u u'->K (ofV b) u')->VH Tryz.prog ofv [.agg #[.int .i64 b.1,.int .i64 b.2.1,.int .i64 b.2.2.1,.int .i64 b.2.2.2.1,.int .i64 b.2.2.2.2]] [.one bN] u K)
 {R:Int->Int->Int->Int->Int->Bool->Hp->Prop}
 (h0:∀(b:B5) w,bK U w->(∀e∈x.kn,¬lp ofV addr e.2)->R b.1 b.2.1 b.2.2.1 b.2.2.2.1 b.2.2.2.2 false w)
 (h1:∀e w,bK U w->e∈x.kn->lp ofV addr e.2->R e.2.1 e.2.2.1 e.2.2.2.1 e.2.2.2.2.1 e.2.2.2.2.2 true w) :
 YW.c (aW gb) addr ofv U R:=by
 refine YW.o ?_;unfold YW.v;refine nw (cs:=eW (0,0,0,0,0)) λv hz e b6=>nw (cs:=eW (0,0,0,0,0)) λv1 hz1 e1 b8=>?_;have e01:=e.trans e1;have p1:=p.fr e01;refine aG (p1.b.rM rfl ?_);refine A3 (a:=.b) (a':=.b) p1.m (λg (d E:Bool) u=>bK U u/\v1.size<u.size/\bY u U.size (eW (0,0,0,0,0))/\(∀e∈g,e∈x.kn)/\∃iH:B5,bY u v.size (eW iH)/\(d=false->∀e∈x.kn,e∈g\/¬lp ofV addr e.2)/\(d=true->∃e∈x.kn,e.2=iH/\lp ofV addr e.2))
  (λu hu Z=>⟨e01.trans Z,O,Z.bT (e1.bT b6 id) id,λe D=>D,(0,0,0,0,0),Z.bT b8 id,λ_ e D=>.inl D,λh=>by cases h⟩) ?_ ?_
 ·rintro(d:Bool) (E:Bool) u ⟨Z,hlt,ab,_,iH,C,hf0,ac⟩;refine C.rI rfl (C.rI rfl (C.rI rfl (C.rI rfl (C.rI rfl ?_))));refine ab.s1 (by simp[eW]) λv3 o3 b3=>b3.s1 (by simp[eW]) λv4 o4 b4=>b4.s1 (by simp[eW]) λv5 o5 b5=>b5.s1 (by simp[eW]) λv6 o6 b6=>b6.s1 (by simp[eW]) λv7 o7 b7=>?_;have eo:Ext (· = U.size) u v7:=(((o3.ext.trans o4.ext).trans o5.ext).trans o6.ext).trans o7.ext;have e7:bK U v7:=Ext.fresh Z eo λi (hi:i=U.size)=>by omega
  have A:bY v7 U.size (eW iH):=b7;refine A.rI rfl (A.rI rfl (A.rI rfl (A.rI rfl (A.rI rfl ?_))));cases d with
  | false=>exact h0 iH v7 e7 λe D=>(hf0 rfl e D).resolve_left aA
  | true=>
   obtain⟨e,D,rfl,G⟩:=ac rfl;exact h1 e v7 e7 D G
 ·rintro g k (b:B5) (d:Bool) (E:Bool) u u' J ⟨Z,hlt,ab,F,iH,C,hf0,ac⟩ Q o1 hs1 hJ;have bi:gZ b:=(xi _ (F _ Q)).2;have ov:=hov b bi;have zu:=Z.1;have hz':=o1.1;have hbm:=bi.m;have hbz:=bi.z;have hbb:=bi.base;have hbt:=bi.t;have hbs:=bi.s;have hww:=Z5 (n:=b.2.1) O;have eu':bK U u':=Ext.fresh Z o1.ext λc (hc:c=v1.size)=>by omega
  have Y:=o1.ext.bT ab (show ¬U.size=v1.size by omega);have X:=o1.ext.bT C (show ¬v.size=v1.size by omega);have hkm:=p.m.lt;refine nw (cs:=eW (0,0,0,0,0)) λv2 hz2 e2 b2=>b2.s1 (by simp[eW]) λv3 o3 b3=>b3.s1 (by simp[eW]) λv4 o4 b4=>b4.s1 (by simp[eW]) λv5 o5 b5=>b5.s1 (by simp[eW]) λv6 o6 b6=>b6.s1 (by simp[eW]) λv7 o7 b7=>?_;have eo:Ext (· = u'.size) v2 v7:=(((o3.ext.trans o4.ext).trans o5.ext).trans o6.ext).trans o7.ext;have e7:bK u' v7:=Ext.fresh e2 eo λi (hi:i=u'.size)=>by omega
  have A:bY v7 u'.size (eW b):=b7;have V:∀{w:Hp},bK u' w->w[v1.size]?=u'[v1.size]?/\w[km]?=u'[km]? := λe=>⟨e.2 _ O id,e.2 _ O id⟩;have S:∀e∈g.filter (λy=>!(y.1==k)),e∈x.kn:=λe D=>F e (zI.1 D).1;have hkb:∀e∈x.kn,e∈g->e∈g.filter (λy=>!(y.1==k))\/e=(k,b):=λe D ht=>by
   by_cases hk:e.1=k
   ·right;have h1:=Kl p.m.nodup (show(e.1,e.2)∈x.kn from D);have h2:=Kl p.m.nodup (F _ Q);rw[hk,h2]at h1;exact Prod.ext hk (Option.some.inj h1).symm
   ·exact .inl (zI.2 ⟨ht,by simpa using hk⟩)
  have same:∀w,bK u' w->(d=false->¬lp ofV addr b)->J d E w:=λw ew hnb=>by
   have zw:=ew.1;refine hJ d E w (V ew).1 (V ew).2 ⟨eu'.trans ew,O,ew.bT Y id,S,iH,ew.bT X id,λB e D=>?_,ac⟩;rcases hf0 B e D with h|h
   ·rcases hkb e D h with h|rfl
    ·exact .inl h
    ·exact .inr (hnb B)
   ·exact .inr h
  refine xB (λr u2=>bK u' u2/\bY u2 u'.size (eW b)/\r = !decide (lp ofV addr b)) (λr u2 ⟨eu2,M,hr⟩=>?_) λJ1 hJ1=>?_
  ·by_cases G:lp ofV addr b
   ·refine cB (by rw[hr,zJ G];rfl) ?_;have pu:=(p.fr eu').fr eu2;refine M.rI rfl (M.rI rfl (M.rI rfl (M.rI rfl (M.rI rfl (UL pu b λW e17=>?_)))));have E17:=eu2.trans e17;have j:=e17.bT M id;have h617:=E17.bT Y id;have aa:=E17.bT X id;refine Q8 (λr u3=>u3=W/\(d=false->r=true)) (λr u3 ⟨hu3,hr3⟩=>?_) λJ2 ad=>?_
    ·rw[hu3];refine Q8 (λr1 u4=>u4=W/\(d=false->r1=true)) (λr1 u4 ⟨hu4,hr4⟩=>?_) λJ3 hJ3=>?_
     ·rw[hu4];refine cO (λh1=>?_) λh1=>same W E17 λB=>by rw[hr4 B]at h1;cases h1
      refine j.rI rfl (j.rI rfl (j.rI rfl (j.rI rfl (j.rI rfl ?_))));refine aa.s1 (by simp[eW]) λw3 q3 c3=>c3.s1 (by simp[eW]) λw4 q4 c4=>c4.s1 (by simp[eW]) λw5 q5 c5=>c5.s1 (by simp[eW]) λw6 q6 c6=>c6.s1 (by simp[eW]) λw7 q7 c7=>?_;have qo:Ext (· = v.size) W w7:=(((q3.ext.trans q4.ext).trans q5.ext).trans q6.ext).trans q7.ext;have c7':bY w7 v.size (eW b):=c7;have z17:=E17.1;have zq:=qo.1;refine hJ true _ w7 ?_ ?_ ⟨Ext.fresh (eu'.trans E17) qo λc (hc:c=v.size)=>O,O,qo.bT h617 (show ¬U.size=v.size by omega),S,b,c7',λh=>(by cases h),λ_=>⟨(k,b),F _ Q,rfl,G⟩⟩
      ·rw[qo.2 _ O (show ¬v1.size=v.size by omega)];exact(V E17).1
      ·rw[qo.2 _ O (show ¬km=v.size by omega)];exact(V E17).2
     ·refine cO (λh=>hJ3 _ _ ⟨rfl,λ_=>rfl⟩) λh=>?_;have N:¬d=false:=λB=>by rw[hr3 B]at h;cases h
      exact bV.intro (cO (λ_=>j.rI rfl (aa.rI rfl (hJ3 _ _ ⟨rfl,λB=>(N B).elim⟩))) λ_=>hJ3 _ _ ⟨rfl,λB=>(N B).elim⟩)
    ·refine cO (λh=>ad _ _ ⟨rfl,λ_=>rfl⟩) λh=>?_;have N:¬d=false:=λB=>by rw[B]at h;cases h
     exact bV.intro (cO (λ_=>ad _ _ ⟨rfl,λB=>(N B).elim⟩) λ_=>ad _ _ ⟨rfl,λB=>(N B).elim⟩)
   ·exact cD (by rw[hr,zM G];rfl) (same u2 eu2 λ_=>G)
  ·have hS:∀m,bK v7 m->bY m u'.size (eW b):=λm e=>e.bT A id;refine⟨λm=>bK v7 m,Ext.refl _ _,oM (c:=bN) (y:=b.1) hS rfl (cQ (λh=>hJ1 _ _ ⟨e7,A,?_⟩) λh=>?_)⟩
   ·rw[zM];rfl;rintro⟨h1,_⟩;exact absurd h O
   ·refine oM (c:=bN) (y:=b.1) hS rfl (iF (c:=bN) (y:=b.1) hS rfl (iF (c:=bN) (y:=b.2.1) hS rfl (iF (c:=bN) (y:=b.2.2.1) hS rfl (iF (c:=bN) (y:=b.2.2.2.1) hS rfl (iF (c:=bN) (y:=b.2.2.2.2) hS rfl (hof b v7 _ bi λu3 e3=>⟨e3,ar O O (hJ1 _ _ ⟨e7.trans e3,e3.bT A id,?_⟩)⟩))))));rw[lO,mj,decide_eq_true_iff,decide_eq_false_iff_not];unfold lp;omega
theorem Mc (b:B5)(u:Hp)(K:aN)(bi:gZ b)(hK:∀u',bK u u'->K (YR b.2.1) u'):VH Tryz.prog ⟨44,#[],#[]⟩ [.agg #[.int .i64 b.1,.int .i64 b.2.1,.int .i64 b.2.2.1,.int .i64 b.2.2.2.1,.int .i64 b.2.2.2.2]] [.one bN] u K:=by
 have:=bi.s;refine pd (all := #[.agg #[.int .i64 b.1,.int .i64 b.2.1,.int .i64 b.2.2.1,.int .i64 b.2.2.2.1,.int .i64 b.2.2.2.2]]) (by kernel_rfl) aA ?_;exact UU b O O hK
theorem OT (b:B5)(u:Hp)(K:aN)(bi:gZ b)(hK:∀u',bK u u'->K b.2.1 u'):VH Tryz.prog ⟨57,#[],#[]⟩ [.agg #[.int .i64 b.1,.int .i64 b.2.1,.int .i64 b.2.2.1,.int .i64 b.2.2.2.1,.int .i64 b.2.2.2.2]] [.one bN] u K:=by
 refine pd (all := #[.agg #[.int .i64 b.1,.int .i64 b.2.1,.int .i64 b.2.2.1,.int .i64 b.2.2.2.1,.int .i64 b.2.2.2.2]]) (by kernel_rfl) aA ?_;refine Yx.o ?_;unfold Yx.v;exact nw (cs:=eW b) λv d e a=>a.eZ rfl (hK v e)
def ue (addr:Int)(b:B5):Prop:=lp (λb=>YR b.2.1) addr b
def CE (addr:Int)(b:B5):Prop:=lp (λb=>b.2.1) addr b
def rE (H:Hw)(x:Gu)(addr e:Int):Prop:=(e=7/\((∀k∈x.kn,¬ue addr k.2)\/addr%8≠0))\/(∃k∈x.kn,ue addr k.2/\addr%8=0/\e=if Uu H k.2 then 5 else 0)
set_option maxRecDepth 16000 in
theorem Dm (p:GP σ0 U L H held s0 P gb km fm x)(xi:∀e∈x.kn,e.1=e.2.1/\gZ e.2)(addr:Int){R:aN}(hR:∀e w,bK U w->rE H x addr e->R e w):X8.c (aW gb) addr U R:=by
 refine X8.o ?_;unfold X8.v;have G:∀b,gZ b->0<=YR b.2.1/\YR b.2.1<=100000:=λb A=>by have:=A.s;have:=Z5 (n:=b.2.1) O;omega
 have box:∀{w:Hp} {M N B F Q:Int} {K:Addr->Hp->Prop},(∀d,bK w d->bY d w.size (eW (M,N,B,F,Q))->K ⟨w.size,0,none⟩ d) →
  Nw (.cells #[.int .i64 0,.int .i64 0,.int .i64 0,.int .i64 0,.int .i64 0] 95 (0,0)) w λm W=>dX (m.add 0) (.int .i64 M) W λv3=>dX (m.add 1) (.int .i64 N) v3 λv4=>dX (m.add 2) (.int .i64 B) v4 λY=>dX (m.add 3) (.int .i64 F) Y λZ=>dX (m.add 4) (.int .i64 Q) Z λv7=>K m v7:=λ{w M N B F Q K} hK=>
  nw (cs:=eW (0,0,0,0,0)) λW hz2 e2 b2=>b2.s1 (by simp[eW]) λv3 o3 b3=>b3.s1 (by simp[eW]) λv4 o4 b4=>b4.s1 (by simp[eW]) λY o5 b5=>b5.s1 (by simp[eW]) λZ o6 b6=>b6.s1 (by simp[eW]) λv7 o7 g=>
   hK v7 (Ext.fresh e2 ((((o3.ext.trans o4.ext).trans o5.ext).trans o6.ext).trans o7.ext) λi (hi:i=w.size)=>O) g
 refine Ug p (cB rfl (Di p xi addr G Mc (λb w E hn=>?_) λk w E S j=>?_))
 ·refine box λd D g=>bV.intro (cD rfl (cD rfl (hR 7 d (E.trans D) (.inl ⟨rfl,.inl hn⟩))))
 ·refine box λd D g=>?_;have A:gZ k.2:=(xi _ S).2;have h0:0<=addr:=by have:=j.1;have:=A.z;have:=A.base;omega
  have a:=E.trans D;refine Q8 (λr u=>u=d/\r=decide (addr%8≠0)) (λr u ⟨hu,V⟩=>?_) λJ hJ=>cB rfl (nz aB (hJ _ _ ⟨rfl,?_⟩))
  ·rw[hu];by_cases h8:addr%8≠0
   ·exact cD (by rw[V];exact zJ h8) (hR 7 d a (.inl ⟨rfl,.inr h8⟩))
   ·refine cB (by rw[V];exact zM h8) (g.rI rfl (g.rI rfl (g.rI rfl (g.rI rfl (g.rI rfl (UL (p.fr a) k.2 λX e9=>?_))))));have y:addr%8=0:=by omega
    refine cO (λC=>hR 5 X (a.trans e9) (.inr ⟨k,S,j,y,by rw[C];rfl⟩)) λC=>hR 0 X (a.trans e9) (.inr ⟨k,S,j,y,by rw[C];rfl⟩)
  ·rw[Qm h0];by_cases h8:addr%8=0
   ·rw[h8];decide
   ·rw[zJ h8];simpa using h8
theorem yW (p:GP σ0 U L H held s0 P gb km fm x)(xi:∀e∈x.kn,e.1=e.2.1/\gZ e.2)(addr:Int)(ha:addr<=9223372036854775807){R:Int->Int->Hp->Prop}(h0:∀e w,e≠0->bK U w->rE H x addr e->R 0 e w)(h1:∀w,bK U w->rE H x addr 0->R (QH H.sp addr) (eH H.sp addr) w):Xy.c (aW gb) addr U R:=by
 refine Xy.o ?_;unfold Xy.v;refine Dm p xi addr λe w g i=>cO (λd=>h0 e w (by simpa using d) g i) λa=>?_;have m:e=0:=by simpa using a
 subst m;have j:=p.fr g;exact aG (j.b.rP rfl (DG j.h addr ha λr e2=>h1 r (g.trans e2) i))
theorem UX (p:GP σ0 U L H held s0 P gb km fm x)(gc:Gc σ0)(xi:∀e∈x.kn,e.1=e.2.1/\gZ e.2)(addr u:Int)(ha:addr<=9223372036854775807){R:aN}(h0:∀e w,e≠0->bK U w->rE H x addr e->R e w)
 (h1:∀w s0' P',rE H x addr 0->Ext P U w->GP σ0 w L {H with sp:=ZU H.sp addr u} held s0' P' gb km fm x->(∀c,P' c->P c\/U.size<=c)->R (eH H.sp addr) w):W3.c (aW gb) addr u U R:=by
 refine W3.o ?_;unfold W3.v;refine Dm p xi addr λe w a j=>cO (λg=>h0 e w (by simpa using g) a j) λd=>?_;have r:e=0:=by simpa using d
 subst r;have m:=p.fr a;have A:=a.1;exact aG (m.b.rP rfl (m.write gc addr u ha λs s2 P2 e2 z i=>h1 s s2 P2 j ((bK.to a).trans e2) z λc y=>(i c y).imp id λh=>O))
set_option maxRecDepth 16000 in
theorem Ry (p:GP σ0 U L H held s0 P gb km fm x)(xi:∀e∈x.kn,e.1=e.2.1/\gZ e.2)(addr:Int){R:Int->Int->Int->Int->Int->Hp->Prop}(h0:∀w,bK U w->(∀k∈x.kn,¬CE addr k.2)->R 0 0 0 0 8 w)(h1:∀k w,bK U w->k∈x.kn->CE addr k.2->R k.2.1 k.2.2.1 k.2.2.2.1 k.2.2.2.2.1 0 w):YH.c (aW gb) addr U R:=by
 refine YH.o ?_;unfold YH.v;have M:∀b,gZ b->0<=b.2.1/\b.2.1<=100000:=λb bi=>by have:=bi.s;omega
 refine nw (cs:=[.int .i64 0,.int .i64 0,.int .i64 0,.int .i64 0]) λv hz e j=>?_;have m:∀{w:Hp} {a b c d:Int} {K:Int->Int->Int->Int->Hp->Prop},bK U w->bY w U.size [.int .i64 0,.int .i64 0,.int .i64 0,.int .i64 0]->(∀g,bK U g->K a b c d g) →
  dX (Addr.add ⟨U.size,0,none⟩ 0) (.int .i64 a) w λv7=>dX (Addr.add ⟨U.size,0,none⟩ 1) (.int .i64 b) v7 λv8=>dX (Addr.add ⟨U.size,0,none⟩ 2) (.int .i64 c) v8 λv9=>dX (Addr.add ⟨U.size,0,none⟩ 3) (.int .i64 d) v9 λv10=>
  gA .i64 (Addr.add ⟨U.size,0,none⟩ 0) v10 λr0=>gA .i64 (Addr.add ⟨U.size,0,none⟩ 1) v10 λr1=>gA .i64 (Addr.add ⟨U.size,0,none⟩ 2) v10 λr2=>gA .i64 (Addr.add ⟨U.size,0,none⟩ 3) v10 λr3=>K r0 r1 r2 r3 v10:=λu G C=>
  G.s1 aA λv1 o1 b1=>b1.s1 aA λD o2 X=>X.s1 aA λv3 o3 S=>S.s1 aA λB o4 j=>j.rI rfl (j.rI rfl (j.rI rfl (j.rI rfl (C B ((((u.only o1 (.inr (zD _))).only o2 (.inr (zD _))).only o3 (.inr (zD _))).only o4 (.inr (zD _)))))))
 have box:∀{w:Hp} {N V F J W:Int} {K:Addr->Hp->Prop},(∀z,bK w z->bY z w.size (eW (N,V,F,J,W))->K ⟨w.size,0,none⟩ z) →
  Nw (.cells #[.int .i64 0,.int .i64 0,.int .i64 0,.int .i64 0,.int .i64 0] 95 (0,0)) w λy D=>dX (y.add 0) (.int .i64 N) D λv3=>dX (y.add 1) (.int .i64 V) v3 λB=>dX (y.add 2) (.int .i64 F) B λZ=>dX (y.add 3) (.int .i64 J) Z λv6=>dX (y.add 4) (.int .i64 W) v6 λv7=>K y v7:=λ{w N V F J W K} C=>
  nw (cs:=eW (0,0,0,0,0)) λD hz2 e2 X=>X.s1 (by simp[eW]) λv3 o3 S=>S.s1 (by simp[eW]) λB o4 j=>j.s1 (by simp[eW]) λZ o5 b5=>b5.s1 (by simp[eW]) λv6 o6 b6=>b6.s1 (by simp[eW]) λv7 o7 r=>
   C v7 (Ext.fresh e2 ((((o3.ext.trans o4.ext).trans o5.ext).trans o6.ext).trans o7.ext) λi (hi:i=w.size)=>O) r
 have Y:=p.fr e;refine Ug Y (cB rfl (Di Y xi addr M OT (λb w u hn=>?_) λk w u hk E=>?_))
 ·refine box λz A r=>cD rfl (m (K:=λa b c d g=>R a b c d 8 g) ((e.trans u).trans A) ((u.trans A).bT j id) λg Q=>h0 g Q hn)
 ·refine box λz A r=>cB rfl (r.eZ rfl (r.eZ rfl (r.eZ rfl (r.eZ rfl ?_))));exact m (K:=λa b c d g=>R a b c d 0 g) ((e.trans u).trans A) ((u.trans A).bT j id) λg Q=>h1 k g Q hk E
end Go.Ar
namespace Go.Ar
open Go Go.Vc Go.Proofs
open Go.Vc (bW dB cS)
variable {size align:Int}{U σ0 v w w':Hp}{F P Q X T:Rg}{L:dH}{H H' H1:Hw}{held:List Pc}{s0 sp:Sp}{t n:Nat}{g:Th}{gb km fm m:Nat}{x y:Gu}{b:B5}
theorem iy.wP {n m:Nat}{H H1 H2:Hw}{t:Nat}{p:Ph}{a1 e1 a2 e2:Int}(h:iy n H t p H1 a1 e1)(h':iy m H t p H2 a2 e2):H1=H2/\a1=a2/\e1=e2:=by
 induction h generalizing m with
 | done h1 h2=>
  cases h' with
  | done=>exact⟨rfl,rfl,rfl⟩
  | next _ h3 _=>rw[h2]at h3;cases h3
 | next h1 h2 _ ih=>
  cases h' with
  | done _ h3=>rw[h2]at h3;cases h3
  | next _ h3 h4=>rw[h2]at h3;cases h3;exact ih h4
theorem Ua.wP {thread kind size align addr a1 e1 a2 e2:Int}{H1 H2:Hw}(h:Ua H thread kind size align addr H1 a1 e1)(h':Ua H thread kind size align addr H2 a2 e2):H1=H2/\a1=a2/\e1=e2:=by
 rcases h with⟨h1,_,rfl,rfl⟩|⟨t,p,n,h1,h2⟩
 ·rcases h' with⟨g1,_,rfl,rfl⟩|⟨_,_,_,g1,_⟩
  ·rw[h1]at g1;cases g1;exact⟨rfl,rfl,rfl⟩
  ·rw[h1]at g1;cases g1
 ·rcases h' with⟨g1,_⟩|⟨_,_,_,g1,g2⟩
  ·rw[h1]at g1;cases g1
  ·rw[h1]at g1;cases g1;exact h2.wP g2
theorem OK:sH w0 64:=by
 have h:=DY (xs:=qy 8) (p:=64) (a:=1) (t:=1) (b:=1024) (r:=2) (Hv 8 aB aB) aB;rw[wC]at h;exact h
theorem Ga {a:Option Addr}{thread addr:Int}{R:aN}(h:XT.c a thread addr true U R):Xh.c a thread addr U R:=Xh.o (by unfold Xh.v;exact h)
theorem GI (H:Hw)(thread:Int):V5 H thread=if 0<=thread/\thread<(H.bQ.length:Int)then fN H thread.toNat else none:=by
 unfold V5 fN;split
 ·cases H.bQ[thread.toNat]?<;>rfl
 ·rfl
theorem O2 (o:fY H H')(thread:Int):QU H' thread=QU H thread:=by
 unfold QU;rw[GI,GI,o.kp.2.1,o.kp.2.2.1,o.ph]
theorem Ip {a b:Sl}{xs ys:List Int}{G:Rg}(ha:cX a 1 (Wo xs) U F)(hb:cX b 1 (Wo ys) U G)(hl:xs.length<=1000000000){R:aO}(hR:R (decide (xs=ys)) U):XL.c a b U R:=by
 refine XL.o ?_;unfold XL.v;have A:a.len=xs.length:=by have:=ha.1;simp[Wo]at this;omega
 have B:b.len=ys.length:=by have:=hb.1;simp[Wo]at this;omega
 rw[A,B,pI];refine cO (λs=>?_) λs=>?_
 ·have d:xs.length≠ys.length:=by simpa using s
  rw[zM λe=>d (by rw[e])]at hR;exact hR
 have J:xs.length=ys.length:=by simpa using s
 refine ZS (a:=bN) (λ(t:Int) v=>∃i:Nat,t=(i:Int)/\i<=xs.length/\v=U/\xs.take i=ys.take i) (λt _=>xs.length-t.toNat) ⟨0,rfl,O,rfl,rfl⟩ ?_;rintro t v ⟨i,rfl,K,rfl,g⟩;refine cQ (λC=>?_) λD=>?_
 ·have u:i<xs.length:=by omega
  have j:xs[i]?=some xs[i]:=cV u;have p:ys[i]?=some (ys[i]' O):=cV _;generalize xs[i]=x at j;generalize ys[i]' O=y at p;rw[←A,←B];refine ha.nr j (hb.nr p (cO (λd=>?_) λr=>?_))
  ·have H:x≠y:=by simpa using d
   rw[zM]at hR
   ·exact hR
   ·intro e;rw[e,p]at j;exact H (Option.some.inj j).symm
  ·have w:x=y:=by simpa using r
   refine cP (m:=i+1) O O ⟨⟨i+1,rfl,O,rfl,?_⟩,O⟩;rw[lI,lI,g,j,p,w]
 ·have E:i=xs.length:=by omega
  have:xs=ys:=by
   have z:=g;rw[mN O,mN O]at z;exact z
  rw[zJ this]at hR;exact hR
def gm:Hw×Int×Int:=(xg w0 0 0 56 16 0).getD (w0,0,99)
theorem Bz:gm.2=(4096,0):=by decide +kernel
theorem wI:Ua w0 0 0 56 16 0 gm.1 4096 0:=by
 have a:=Bz;unfold gm at *;cases hw:xg w0 0 0 56 16 0 with
 | none=>rw[hw]at a;exact absurd (congrArg Prod.snd a) aB
 | some r=>
  rw[hw]at a;have:=Je hw;have e1:r.2=(4096,0):=a;rw[e1]at this;exact this
def gB:B5:=(4112,24,4096,64,1)
theorem y6:Ke gm.1 4096=some 64:=by decide +kernel
def gX:Gu:=nH.eV gB
def qB:Hw:={gm.1 with sp:=j2 gm.1.sp gB}
def oV:Hw:={qB with sp:=ZU qB.sp 4136 5}
def qg:Hw:={oV with sp:=ZU oV.sp 4136 (-4137)}
def tz:Hw:={qg with sp:=ZU qg.sp 4128 7}
theorem RV:eH qB.sp 4136=0:=by decide +kernel
theorem wc:yR oV gX 4112=0/\Br oV gX 4112=[4136]/\lZ oV gX 0 4112 true=10/\eH oV.sp 4136=0:=by decide +kernel
theorem yA:eH qg.sp 4128=0/\Uu qg gB=false:=by decide +kernel
theorem CR:lZ tz gX 0 4112 true=0/\QU (iw tz gB) 0=0:=by decide +kernel
theorem An:gX.kn=[(4112,gB)]:=rfl
theorem oy:∀e∈gX.kn,e.1=e.2.1/\gZ e.2:=λe a=>by
 rw[An,zN]at a;subst a;exact⟨rfl,⟨by decide,by decide⟩,⟨by decide,by decide⟩,⟨by decide,by decide,by decide⟩,⟨by decide,by decide⟩,by decide⟩
theorem Rr:lZ H (gX.gone 4112) 0 4112 true=if QU H 0≠0 then QU H 0 else 9:=by
 unfold lZ;split
 ·rfl
 ·rfl
attribute [local irreducible] w0 gm qB oV qg tz
theorem Jm:qB = {gm.1 with sp:=j2 gm.1.sp gB}:=by unfold qB;rfl
theorem Lo:oV = {qB with sp:=ZU qB.sp 4136 5}:=by unfold oV;rfl
theorem PL:qg = {oV with sp:=ZU oV.sp 4136 (-4137)}:=by unfold qg;rfl
theorem Eo:tz = {qg with sp:=ZU qg.sp 4128 7}:=by unfold tz;rfl
set_option maxRecDepth 8000 in
theorem MQ (gl:Gl U)(gc:Gc U){R:aO}(hR:∀σ',bK U σ'->R true σ'):WG.c U R:=by
 refine WG.o ?_;unfold WG.v;refine M9 gl gc.gd λv L N e hsN hNv h0=>cB rfl ?_;have S:=OK;have hc0:w0.cf.aF=64:=by have:=S.pg;omega
 refine Db e h0.cut S.hi S.cf O (λb C=>⟨by have:N<=b:=C.1;omega,C.2⟩) (AA gl gc.gd) λw gb km fm e1 _ p=>?_;refine bV.intro (cB rfl (cB rfl ?_));refine Hl p gc ⟨by decide,by decide⟩ 0 24 8 (λw E=>absurd E aB) (λe w ts H' g r P' _ d i=>?_) λb w2 ts H1 x s1 P1 D i o e2 X hP2=>?_
 ·have:=i.wP wI;exact absurd this.2.2 d
 obtain⟨rfl,y,_⟩:=i.wP wI;have C:b=gB:=by
  have hu:=D.u;rw[y,y6]at hu;have h1:=D.a;rw[y]at h1;have h2:b.2.2.2.1=64:=(Option.some.inj hu).symm;exact Prod.ext (h1.trans aB) (Prod.ext D.s (Prod.ext y (Prod.ext h2 D.n)))
 subst C;have X:GP U w2 {L with ts:=ts} qB x s1 P1 gb km fm gX:=by rw[Jm];exact X
 refine bV.intro (cB aB (bV.intro (cB aB ?_)));refine X.write gc 4136 5 aB λw3 s3 P3 e3 F _=>?_;rw[RV];rw[←Lo]at F;refine cB aB ?_;refine FK F oy 4112 λsl w4 Q e4 hs hQ=>?_;rw[wc.1];rw[wc.2.1]at hs;have p4:=F.fr e4;refine bV.intro (cB aB (nw (cs:=[.int .i64 4136]) λw5 hz5 e5 b5=>?_));have p5:=p4.fr e5;have M:=aI.bO hs e5;have K:cX ⟨some ⟨w4.size,0,none⟩,1,1⟩ 1 (Wo [4136]) w5 (· = w4.size):=b5.gY rfl rfl λj hj=>by rw[zH];rfl
 refine Ip (bS.gY M) K aA ?_;refine bV.intro ?_;refine cB (show(!decide (([4136]:List Int)=[4136]))=false by decide) ?_;refine Ga ?_;refine Gz p5 gc oy 0 4112 true (λw6 d e6=>?_) λb w6 ts H1 g r P' e _ h=>by rw[wc.2.2.1]at h;exact absurd h aB
 rw[wc.2.2.1];have p6:=p5.fr e6;refine bV.intro (cB aB ?_);refine p6.write gc 4136 (-4137) aB λw7 s7 P7 e7 p7 _=>?_;rw[wc.2.2.2];rw[←PL]at p7;refine cB aB ?_;have W:ue 4128 gB:=⟨by decide,by decide⟩;have m:¬ue 4136 gB:=λh=>absurd h.2 aB;have wd:∀{H:Hw} {a e:Int},Uu H gB=false->rE H gX a e->(ue a gB/\a%8=0->e=0)/\(¬ue a gB->e=7):=λhl i=>by
  rcases i with⟨rfl,h⟩|⟨k,E,hi,h8,rfl⟩
  ·refine⟨λh'=>?_,λ_=>rfl⟩;rcases h with h|h
   ·exact absurd h'.1 (h (4112,gB) (by rw[An];exact zN.2 rfl))
   ·exact absurd h'.2 h
  ·rw[An,zN]at E;subst E;simp only[hl];exact⟨λ_=>rfl,λh=>absurd hi h⟩
 refine UX p7 gc oy 4128 7 aB (λe w d _ i=>absurd ((wd yA.2 i).1 ⟨W,by decide⟩) d) λw8 s8 P8 _ e8 J _=>?_;rw[yA.1];rw[←Eo]at J;have z:Uu tz gB=false:=by rw[Eo];exact yA.2
 refine UX J gc oy 4136 7 aB (λe w9 d e9 i=>?_) λw s P i=>absurd ((wd z i).2 m) aB;have B:=(wd z i).2 m;subst B;have p9:=J.fr e9;refine bV.intro (cD rfl (bV.intro (cD rfl ?_)));refine Ga ?_;refine Gz p9 gc oy 0 4112 true (λw d=>absurd CR.1 d) λb w10 ts H1 g r P' e Y _ i o fe e10 A hP10=>?_;have G:b=gB:=by
  have:bW gX.kn 4112=some gB:=rfl;rw[this]at Y;exact(Option.some.inj Y).symm
 subst G;refine bV.intro (cD rfl ?_);have xi:∀e∈(gX.gone 4112).kn,e.1=e.2.1/\gZ e.2:=λe B=>by
  rw[show(gX.gone 4112).kn=[]from rfl]at B;simp at B
 have h9:lZ H1 (gX.gone 4112) 0 4112 true=9:=by
  rw[Rr,O2 o,CR.2];rfl
 refine Ga ?_;refine Gz A gc xi 0 4112 true (λZ d V=>?_) λb w ts H1 g r P' e Y h=>by rw[h9]at h;exact absurd h aB
 rw[h9];exact hR Z (A.fr V).e
end Go.Ar
namespace Go.Ar
open Go.Vc (bW dB cS)
variable {size align thread addr:Int}{H H' H1:Hw}{held held1:List Pc}{s0 s1 sp:Sp}{x y:Gu}{b:B5}
theorem B1 {α:Type}{l:List (Int×α)}{n:Int}(h:bW l n=none)(v:α):dB l n v=l++[(n,v)]:=by
 unfold dB;rw[zB];intro hx;obtain⟨y,a,e⟩:=j9.1 hx;unfold bW at h;rw[qU,ny]at h;exact h y a e
theorem AO {α:Type}{l:List (Int×α)}{n:Int}:bW l n=none↔∀e∈l,e.1≠n:=by
 unfold bW;rw[qU,ny];simp only[zS]
theorem VT {α β:Type}{f:α->β}:∀{l:List α},(l.map f).Nodup->∀{a b:α},a∈l->b∈l->f a=f b->a=b
 | [],_,_,_,h,_,_=>by simp at h
 | z::l,hn,a,b,ha,hb,e=>by
  simp only[zT,zr]at hn;rcases zW.1 ha with h1|h1
  ·rcases zW.1 hb with h2|h2
   ·rw[h1,h2]
   ·exact absurd (zE.2 ⟨b,h2,by rw[←e,h1]⟩) hn.1
  ·rcases zW.1 hb with h2|h2
   ·exact absurd (zE.2 ⟨a,h1,by rw[e,h2]⟩) hn.1
   ·exact VT hn.2 h1 h2 e
theorem Bl (h:HI H held s0){e:Int×Bk}(he:e∈H.live){w:Nat}(h1:e.1<=((8*w:Nat):Int))(h2:((8*w:Nat):Int)<e.1+e.2.2.1):gf H.sp.st (w/32)≠0:=by
 obtain⟨_,p,a,_,_,b,d,_⟩:=h.lv e he;have:=h.mapped a (x:=8*w) O O
 rwa [show 8*w/256=w/32 by omega]at this
structure dU (H:Hw) (x:Gu):Prop where
 live:H.live.map (λe=>(e.1,e.2.2.1))=x.kn.map (λe=>(e.2.2.2.1,e.2.2.2.2.1))
 can:∀e∈x.kn,∀z∈Za e.2,QH H.sp z=jz z
 ph:∀j,fN H j=none
 i:∀e∈x.kn,e.1=e.2.1/\gZ e.2
 nd:(x.kn.map (·.1)).Nodup
theorem De (hi:HI H held s0){e e':Int×Bk}(he:e∈H.live)(he':e'∈H.live){z:Int}(h1:e.1<=z)(h2:z<e.1+e.2.2.1)(h3:e'.1<=z)(h4:z<e'.1+e'.2.2.1):e=e':=by
 obtain⟨_,p,a,_,_,g,i,_⟩:=hi.lv e he;obtain⟨_,q,b,_,_,d,j,_⟩:=hi.lv e' he';have:p=q:=hi.apart a b (x:=z.toNat) O O O O;subst this;exact VT hi.lk he he' (by rw[←g,←d])
theorem dU.of (g:dU H x){e:Int×B5}(he:e∈x.kn):∃l∈H.live,l.1=e.2.2.2.1/\l.2.2.1=e.2.2.2.2.1:=by
 have:(e.2.2.2.1,e.2.2.2.2.1)∈H.live.map (λe=>(e.1,e.2.2.1)):=by rw[g.live];exact zE.2 ⟨e,he,rfl⟩
 obtain⟨l,a,h⟩:=zE.1 this;simp only[Prod.mk.injEq]at h;exact⟨l,a,h.1,h.2⟩
theorem dU.ry (g:dU H x)(hi:HI H held s0):(x.kn.map λe=>e.2.2.2.1).Nodup:=by
 have a:=congrArg (List.map Prod.fst) g.live;rw[k8,k8]at a;have b:(x.kn.map λe=>e.2.2.2.1)=H.live.map (·.1):=a.symm;rw[b];exact hi.lk
theorem dU.apart (g:dU H x)(hi:HI H held s0){e e':Int×B5}(he:e∈x.kn)(he':e'∈x.kn){z:Int}(h1:e.2.2.2.1<=z)(h2:z<e.2.2.2.1+e.2.2.2.2.1)(h3:e'.2.2.2.1<=z)(h4:z<e'.2.2.2.1+e'.2.2.2.2.1):e=e':=by
 obtain⟨l,b,i,m⟩:=g.of he;obtain⟨j,a,d,p⟩:=g.of he';have:=De hi b a (z:=z) O O O O;subst this;exact VT (g.ry hi) he he' (by rw[←i,←d])
theorem dU.usable (g:dU H x)(hi:HI H held s0){e:Int×B5}(he:e∈x.kn):Ke H e.2.2.2.1=some e.2.2.2.2.1:=by
 obtain⟨l,b,d,a⟩:=g.of he;unfold Ke;rw[←d,Kl hi.lk (show(l.1,l.2)∈H.live from b)];exact congrArg some a
theorem dU.lost (g:dU H x)(hi:HI H held s0){e:Int×B5}(he:e∈x.kn):Uu H e.2=false:=by
 unfold Uu;rw[g.usable hi he];simp
theorem dU.map (g:dU H x)(hi:HI H held s0){e:Int×B5}(he:e∈x.kn){w:Nat}(h1:e.2.2.2.1<=((8*w:Nat):Int))(h2:((8*w:Nat):Int)<e.2.2.2.1+e.2.2.2.2.1):gf H.sp.st (w/32)≠0:=by
 obtain⟨l,a,d,b⟩:=g.of he;exact Bl hi a O O
theorem gZ.word (bi:gZ b){z:Int}(h:z∈Za b\/z∈Z9 b):(∃w:Nat,z=((8*w:Nat):Int))/\b.2.2.1<=z/\z<b.2.2.1+b.2.2.2.1:=by
 have a:=bi.base;have d:=bi.z;have e:=bi.t;rcases h with h|h
 ·have:=UJ bi h;exact⟨⟨z.toNat/8,O⟩,O,O⟩
 ·have:=Gs bi h;exact⟨⟨z.toNat/8,O⟩,O,O⟩
theorem gZ.nw (bi:gZ b){z:Int}(h:z∈Za b):z∉Z9 b:=λa=>by
 have d:=UJ bi h;have e:=Gs bi a;omega
theorem dU.acc (g:dU H x)(hi:HI H held s0){e:Int×B5}(he:e∈x.kn){z:Int}(h:z∈Za e.2\/z∈Z9 e.2):eH H.sp z=0:=by
 obtain⟨⟨w,rfl⟩,a,b⟩:=(g.i e he).2.word h;exact Ur.2 (g.map hi he a b)
theorem dU.broken (g:dU H x)(hi:HI H held s0){e:Int×B5}(he:e∈x.kn):Ki H.sp e.2=[]:=by
 unfold Ki;rw[List.filter_eq_nil_iff];intro z hz;unfold jI;rw[g.acc hi he (.inl hz),g.can e he z hz];simp
theorem dU.cF (g:dU H x)(hi:HI H held s0):pq H x=[]:=by
 unfold pq;rw[List.flatMap_eq_nil_iff];intro e he;unfold nT;rw[g.lost hi he,g.broken hi he];rfl
theorem dU.jh (bi:gZ b){z:Int}(h1:b.1<=z)(h2:z<b.1+YR b.2.1)(h8:z%8=0):z∈Z9 b:=by
 have:=bi.z;have a:=Z5 (n:=b.2.1) (by have:=bi.s;omega);refine zE.2 ⟨((z-b.1)/8).toNat,zc.2 ?_,O⟩;unfold QM;omega
theorem Ap (hi:HI H held s0)(ks:KS H.sp sp){l:Int×Bk}(hl:l∈H.live){w:Nat}(h1:l.1<=((8*w:Nat):Int))(h2:((8*w:Nat):Int)<l.1+l.2.2.1):QH sp ((8*w:Nat):Int)=QH H.sp ((8*w:Nat):Int)/\gf sp.st (w/32)≠0:=by
 have a:=Bl hi hl h1 h2;have:=ks.k _ a;rw[Gh,Gh,zC a,zC this.1,this.2 w rfl];exact⟨rfl,this.1⟩
def Kept (H:Hw)(x:Gu)(H':Hw)(x':Gu)(e:Int×B5):Prop:=e∈x'.kn/\∀z∈Z9 e.2,QH H'.sp z=QH H.sp z
theorem IX (bi:gZ b):∀z∈Za b,0<=z/\z%8=0:=λz a=>by
 have:=UJ bi a;have:=bi.base;omega
theorem EW (bi:gZ b):∀z∈Z9 b,0<=z/\z%8=0:=λz a=>by
 have:=Gs bi a;have:=bi.base;have:=bi.z;omega
theorem dU.eV (g:dU H x)(hi:HI H held s0)(gr:yi H x size align b H1)(o:fY H H1)(hi1:HI H1 held1 s1) :
 dU {H1 with sp:=j2 H1.sp b} (x.eV b)/\(x.eV b).kn=x.kn++[(b.1,b)]/\(∀e∈x.kn,Kept H x {H1 with sp:=j2 H1.sp b} (x.eV b) e)/\(∀z∈Z9 b,QH (j2 H1.sp b) z=0)/\eH (j2 H1.sp b) b.1=0:=by
 have bi:=gr.bi;obtain⟨B,cl,r,_⟩:bW H.live b.2.2.1=none/\∃cl,H1.live=dB H.live b.2.2.1 (b.2.2.1,(GH H.tb (zA align+YR size+16) (zA align)).1,cl,XP H1.bX b.2.2.1)/\True:=by
  rcases gr.me with⟨h,_⟩|⟨_,E,_,cl,F,_⟩
  ·exact absurd rfl h
  ·exact⟨E,cl,F,trivial⟩
 have W:=gr.u;unfold Ke at W;rw[r,AF]at W;have L:(GH H.tb (zA align+YR size+16) (zA align)).1=b.2.2.2.1:=Option.some.inj W;rw[L]at r;rw[B1 B]at r;have N:∃l∈H1.live,l.1=b.2.2.1/\l.2.2.1=b.2.2.2.1:=⟨(b.2.2.1,(b.2.2.1,b.2.2.2.1,cl,XP H1.bX b.2.2.1)),by rw[r];simp,rfl,rfl⟩;obtain⟨ln,M,U,ln2⟩:=N;have R:∀l∈H.live,l∈H1.live:=λl K=>by rw[r];exact ke _ K
 have J:∀e∈x.kn,∀z,e.2.2.2.1<=z->z<e.2.2.2.1+e.2.2.2.2.1->b.2.2.1<=z->z<b.2.2.1+b.2.2.2.1->False:=λe d z E F h3 h4=>by
  obtain⟨l,K,a1,a2⟩:=g.of d;have:=De hi1 (R l K) M (z:=z) O O O O;subst this;have:=AO.1 B l K;exact this U
 have hb1:=bi.base;have Z:=bi.z;have hb3:=bi.t;have hww:=Z5 (n:=b.2.1) (by have:=bi.s;omega);have P:bW x.kn b.1=none:=AO.2 λe d h=>by
  have A:=(g.i e d);have q0:=A.1;have q4:=A.2.s;have hbs:=bi.s;have q1:=A.2.base;have q2:=A.2.z;have q3:=A.2.t;have qw:=Z5 (n:=e.2.2.1) (by have:=A.2.s;omega);exact J e d b.1 O O O O
 have y:(x.eV b).kn=x.kn++[(b.1,b)]:=B1 P b;have p:∀z,(z∈Za b\/z∈Z9 b)->∃w:Nat,z=((8*w:Nat):Int)/\gf H1.sp.st (w/32)≠0:=λz m=>by
  obtain⟨⟨w,rfl⟩,E,F⟩:=bi.word m;exact⟨w,rfl,Bl hi1 M O O⟩
 have G:=IX bi;have D:=EW bi;obtain⟨_,Y,_⟩:=yf jz (Za b) H1.sp G;have Q:∀w:Nat,((8*w:Nat):Int)∉Za b->((8*w:Nat):Int)∉Z9 b->QH (j2 H1.sp b) ((8*w:Nat):Int)=QH H1.sp ((8*w:Nat):Int):=λw E F=>by
  unfold j2;rw[KK D,zB λh=>F h.1,KK G,zB λh=>E h.1]
 have C:∀e∈x.kn,∀z,(z∈Za e.2\/z∈Z9 e.2)->QH (j2 H1.sp b) z=QH H.sp z:=λe d z m=>by
  obtain⟨l,K,a1,a2⟩:=g.of d;obtain⟨⟨w,rfl⟩,E,F⟩:=(g.i e d).2.word m;have:=Ap (H:=H) hi o.ks K (w:=w) O O;rw[Q w (λm=>by have:=bi.word (.inl m);exact J e d _ E F this.2.1 this.2.2) (λm=>by have:=bi.word (.inr m);exact J e d _ E F this.2.1 this.2.2)];exact this.1
 refine⟨⟨?_,λe d z m=>?_,λj=>(o.ph j).trans (g.ph j),λe d=>?_,?_⟩,y,λe d=>⟨by rw[y];exact ke _ d,λz m=>C e d z (.inr m)⟩,λz m=>?_,?_⟩
 ·show H1.live.map _=_;rw[r,y,kC,kC,g.live];rfl
 ·show QH (j2 H1.sp b) z=jz z;rw[y]at d;rcases zK.1 d with d|d
  ·rw[C e d z (.inl m)];exact g.can e d z m
  ·rw[zN]at d;subst d;obtain⟨w,rfl,S⟩:=p z (.inl m);unfold j2;rw[KK D,zB λh=>bi.nw m h.1,KK G,zC ⟨m,S⟩]
 ·rw[y]at d;rcases zK.1 d with d|d
  ·exact g.i e d
  ·rw[zN]at d;subst d;exact⟨rfl,bi⟩
 ·rw[y,kC,nt];refine⟨g.nd,by simp,λa ha c X=>?_⟩;simp only[zT,qT,zN]at X;subst X;obtain⟨e,d,rfl⟩:=zE.1 ha;exact AO.1 P e d
 ·obtain⟨w,rfl,S⟩:=p z (.inr m);unfold j2;rw[KK D,zC ⟨m,λh=>S ((Y _).1 h)⟩]
 ·have V:b.1∈Z9 b:=dU.jh bi (uI _) (by have:=bi.s;omega) bi.z.2.2;obtain⟨w,hw,S⟩:=p b.1 (.inr V);obtain⟨_,k2,_⟩:=yf (λ_=>0) (Z9 b) (j4 H1.sp (Za b) jz) D;rw[hw];unfold j2;exact Ur.2 λh=>S ((Y _).1 ((k2 _).1 h))
theorem dU.same (g:dU H x)(hi:HI H held s0)(o:fY H H')(hl:H'.live=H.live):dU H' x/\∀e∈x.kn,Kept H x H' x e:=by
 have a:∀e∈x.kn,∀z,(z∈Za e.2\/z∈Z9 e.2)->QH H'.sp z=QH H.sp z:=λe b z d=>by
  obtain⟨l,hl,m,s⟩:=g.of b;obtain⟨⟨w,rfl⟩,p,r⟩:=(g.i e b).2.word d;exact(Ap (H:=H) hi o.ks hl (w:=w) O O).1
 exact⟨⟨by rw[hl];exact g.live,λe b z d=>by rw[a e b z (.inl d)];exact g.can e b z d,λj=>(o.ph j).trans (g.ph j),g.i,g.nd⟩,λe b=>⟨b,λz d=>a e b z (.inr d)⟩⟩
theorem dU.write (g:dU H x)(hi:HI H held s0){k:Int×B5}(hk:k∈x.kn){z v:Int}(hz:z∈Z9 k.2):dU {H with sp:=ZU H.sp z v} x/\(∀e∈x.kn,e≠k->Kept H x {H with sp:=ZU H.sp z v} x e)/\(∀u∈Z9 k.2,QH (ZU H.sp z v) u=if u=z then v else QH H.sp u):=by
 obtain⟨⟨d,rfl⟩,C,B⟩:=(g.i k hk).2.word (.inr hz);have r:=g.map hi hk C B;have m:∀w:Nat,QH (ZU H.sp ((8*d:Nat):Int) v) ((8*w:Nat):Int)=if w=d/\gf H.sp.st (w/32)≠0 then v else QH H.sp ((8*w:Nat):Int):=λw=>by
  have:=KK (f:=λ_=>v) (l:=[((8*d:Nat):Int)]) (sp:=H.sp) (λz hz=>by rw[zN]at hz;subst hz;omega) w;have e:j4 H.sp [((8*d:Nat):Int)] (λ_=>v)=ZU H.sp ((8*d:Nat):Int) v:=rfl;rw[e]at this;rw[this];by_cases hw:w=d
  ·subst hw;by_cases hm:gf H.sp.st (w/32)≠0
   ·rw[zC ⟨zN.2 rfl,hm⟩,zC ⟨rfl,hm⟩]
   ·rw[zB λh=>hm h.2,zB λh=>hm h.2]
  ·rw[zB λh=>hw (by have:=zN.1 h.1;omega),zB λh=>hw h.1]
 have j:∀e∈x.kn,∀u,(u∈Za e.2\/u∈Z9 e.2)->(e=k->u∈Za e.2)->QH (ZU H.sp ((8*d:Nat):Int) v) u=QH H.sp u:=λe a u b p=>by
  obtain⟨⟨w,rfl⟩,y,A⟩:=(g.i e a).2.word b;rw[m,zB];rintro⟨rfl,_⟩;have:=g.apart hi a hk y A C B;subst this;exact(g.i e a).2.nw (p rfl) hz
 refine⟨⟨g.live,λe a u b=>?_,g.ph,g.i,g.nd⟩,λe a s=>⟨a,λu b=>j e a u (.inr b) λh=>absurd h s⟩,λu b=>?_⟩
 ·show QH (ZU H.sp ((8*d:Nat):Int) v) u=jz u;rw[j e a u (.inl b) λ_=>b];exact g.can e a u b
 ·obtain⟨⟨w,rfl⟩,y,A⟩:=(g.i k hk).2.word (.inr b);rw[m];by_cases hw:w=d
  ·subst hw;rw[zC ⟨rfl,r⟩,zC rfl]
  ·rw[zB λh=>hw h.1,zB λh=>hw O]
theorem dU.free (g:dU H x)(hi:HI H held s0){b:B5}(hk:bW x.kn addr=some b){e:Int}(hw:Ua (iw H b) thread 1 0 0 b.2.2.1 H1 0 e)(o:fY (iw H b) H1)(fe:oS (iw H b) thread b.2.2.1 H1 e)(hrd:QU H thread=0)(hcf:H.cf.threads=H.bQ.length) :
 dU H1 (x.gone addr)/\∀k∈x.kn,k.1≠addr->Kept H x H1 (x.gone addr) k:=by
 have a:(addr,b)∈x.kn:=Vf hk;have D:=g.i _ a;have S:addr=b.1:=D.1;have L:gZ b:=D.2;obtain⟨l,Q,K,R⟩:=g.of a;simp only at K R;have F:(iw H b).live=H.live:=rfl;have J:bW H.live b.2.2.1=some l.2:=by rw[←K];exact Kl hi.lk (show(l.1,l.2)∈H.live from Q)
 have r:H1.live=cS H.live b.2.2.1:=by
  rcases fe with⟨_,_,h⟩|⟨_,h,_⟩|⟨_,_,_,_,h⟩
  ·exfalso;unfold QU at hrd;rw[GI]at hrd;split at hrd
   ·cases hrd
   ·rename_i hth;have u:=g.ph thread.toNat;unfold Kc at h;have C:thread.toNat<H.bQ.length:=by omega
    rw[zC (show 0<=thread/\thread<((iw H b).bQ.length:Int)from⟨O,by show thread<(H.bQ.length:Int);omega⟩)]at h;have U:(iw H b).bQ[thread.toNat]?=some H.bQ[thread.toNat]:=cV C;rw[U]at h;simp only at h;unfold fN at u;rw[cV C]at u;rw[zC (show H.bQ[thread.toNat].ph=none from u)]at h;unfold iG at h;rw[zB aB,zC rfl]at h;cases h
  ·rw[F,J]at h;cases h
  ·exact h
 have G:=EW L;have p:∃s1,HI (iw H b) held s1:=HI.j4 _ _ hi;obtain⟨s1,p⟩:=p;have d:∀k∈x.kn,k.1≠addr->∀z,(z∈Za k.2\/z∈Z9 k.2)->QH H1.sp z=QH H.sp z:=λk hk m z A=>by
  obtain⟨M,E,V,W⟩:=g.of hk;obtain⟨⟨w,rfl⟩,N,P⟩:=(g.i k hk).2.word A;rw[(Ap p o.ks (l:=M) E (w:=w) O O).1];show QH (j4 H.sp (Z9 b) λ_=>FF) _=_;rw[KK G,zB];rintro⟨hw,_⟩;have B:=L.word (.inr hw);have:=g.apart hi hk a N P B.2.1 B.2.2;subst this;exact m rfl
 have s:∀k,k∈(x.gone addr).kn↔k∈x.kn/\k.1≠addr:=λk=>by
  show k∈cS x.kn addr↔_;unfold cS;rw[zI];simp
 refine⟨⟨?_,λk hk z A=>?_,λj=>(o.ph j).trans (g.ph j),λk hk=>g.i k ((s k).1 hk).1,?_⟩,λk hk m=>⟨(s k).2 ⟨hk,m⟩,λz A=>d k hk m z (.inr A)⟩⟩
 ·rw[r];show(cS H.live b.2.2.1).map _=(cS x.kn addr).map _;unfold cS;have e1:(H.live.filter λy=>!(y.1==b.2.2.1)).map (λe=>(e.1,e.2.2.1))=(H.live.map λe=>(e.1,e.2.2.1)).filter λq=>!(q.1==b.2.2.1):=by rw[vu];rfl
  rw[e1,g.live,vu]
  congr 1
  apply vd;intro k hk;simp only[Function.comp]
  congr 1
  rw[lO,zS,zS];constructor
  ·intro h;have:=VT (g.ry hi) hk a h;rw[this]
  ·intro h;have:=VT g.nd hk a h;rw[this]
 ·have:=(s k).1 hk;rw[d k this.1 this.2 z (.inl A)];exact g.can k this.1 z A
 ·show((cS x.kn addr).map _).Nodup;exact g.nd.sublist (List.filter_sublist.map _)
end Go.Ar
namespace Go.Ar
open Go Go.Vc Go.Proofs
open Go.Vc (bW dB cS)
variable {size align:Int}{U σ0 v w w':Hp}{F P Q X T:Rg}{L:dH}{H H' H1:Hw}{held:List Pc}{s0 sp:Sp}{t n:Nat}{g:Th}{gb km fm m xb:Nat}{x y:Gu}{b:B5}
def uL (gb:Nat)(addrs ls:Sl):List Value:=[.pointer (some ⟨gb,0,none⟩),.slice addrs.a addrs.len addrs.cap,.slice ls.a ls.len ls.cap]
def pY (P:Rg)(gb km fm xb:Nat)(Qa Ql:Rg):Rg:=λb=>Mg P gb km fm b\/b=xb\/Qa b\/Ql b
structure kD (σ0 U:Hp) (xb:Nat) (L:dH) (H:Hw) (held:List Pc) (s0:Sp) (P:Rg) (gb km fm:Nat) (x:Gu) (Qa Ql:Rg) (addrs:Sl) (ad:List Int) (ls:Sl) (la:List T3):Prop where
 p:GP σ0 U L H held s0 P gb km fm x
 b:bY U xb (uL gb addrs ls)
 ra:bS addrs 1 (Wo ad) U Qa
 rl:bS ls 3 (jZ la) U Ql
 vf:σ0.size<=xb/\¬Mg P gb km fm xb/\¬Qa xb/\¬Ql xb
 qa:∀b,Qa b->σ0.size<=b/\b<U.size/\¬Mg P gb km fm b
 ql:∀b,Ql b->σ0.size<=b/\b<U.size/\¬Mg P gb km fm b
 qq:∀b,Qa b->¬Ql b
variable {Qa Ql:Rg}{addrs ls:Sl}{ad:List Int}{la:List T3}
theorem kD.fr (o:kD σ0 U xb L H held s0 P gb km fm x Qa Ql addrs ad ls la)(e:bK U w):kD σ0 w xb L H held s0 P gb km fm x Qa Ql addrs ad ls la:=
 ⟨o.p.fr e,e.bT o.b id,aI.bO o.ra e,aI.bO o.rl e,o.vf,λb a=>by have h:=o.qa b a;have:=e.1;exact⟨h.1,O,h.2.2⟩,λb a=>by have h:=o.ql b a;have:=e.1;exact⟨h.1,O,h.2.2⟩,o.qq⟩
theorem vn {P':Rg}(hg:gb<n/\km<n/\fm<n)(hP:∀b,P' b->P b\/n<=b):∀b,Mg P' gb km fm b->Mg P gb km fm b\/n<=b:=by
 rintro b (h|h)
 ·exact(hP b h).imp .inl id
 ·exact .inl (.inr h)
theorem kD.fo (o:kD σ0 U xb L H held s0 P gb km fm x Qa Ql addrs ad ls la){L':dH}{held':List Pc}{s0':Sp}{P':Rg}(e:Ext (Mg P gb km fm) U w)(p':GP σ0 w L' H' held' s0' P' gb km fm y)(hP:∀b,P' b->P b\/U.size<=b) :
 kD σ0 w xb L' H' held' s0' P' gb km fm y Qa Ql addrs ad ls la:=by
 have D:=e.1;have g:=o.b.lt;obtain⟨z,r,B,u⟩:=o.vf;have i:∀b,b<U.size->¬Mg P gb km fm b->¬Mg P' gb km fm b:=λb C s A=>by
  rcases vn ⟨o.p.b.lt,o.p.m.lt,o.p.f.lt⟩ hP b A with h4|h4
  ·exact s h4
  ·omega
 exact⟨p',e.bT o.b r,aI.bR o.ra e λb _ d a=>(o.qa b d).2.2 a,aI.bR o.rl e λb _ d a=>(o.ql b d).2.2 a,⟨z,i _ g r,B,u⟩,λb j=>by have h:=o.qa b j;exact⟨h.1,O,i b h.2.1 h.2.2⟩,λb j=>by have h:=o.ql b j;exact⟨h.1,O,i b h.2.1 h.2.2⟩,o.qq⟩
theorem Gi {c:Nat}(h:¬Mg P gb km fm c):¬P c/\c≠gb/\c≠km/\c≠fm:=⟨λa=>h (.inl a),λe=>h (.inr (.inl e)),λe=>h (.inr (.inr (.inl e))),λe=>h (.inr (.inr (.inr e)))⟩
theorem wR (p:GP σ0 U L H held s0 P gb km fm x){c:Nat}(h:Mg P gb km fm c):c<U.size:=by
 rcases h with h|rfl|rfl|rfl
 ·exact(p.pP c h).2
 ·exact p.b.lt
 ·exact p.m.lt
 ·exact p.f.lt
theorem kD.cC (o:kD σ0 U xb L H held s0 P gb km fm x Qa Ql addrs ad ls la){s':Sl}{ad':List Int}(e:Ext Qa U w)(hr:bS s' 1 (Wo ad') w λb=>Qa b\/U.size<=b/\b<w.size){K:aP}
 (hK:∀u,Ext (· = xb) w u->kD σ0 u xb L H held s0 P gb km fm x (λb=>Qa b\/U.size<=b/\b<w.size) Ql s' ad' ls la->K u):dX (Addr.add ⟨xb,0,none⟩ 1) (.slice s'.a s'.len s'.cap) w K:=by
 have J:=e.1;have D:=o.b.lt;obtain⟨z,y,r,A⟩:=o.vf;have G:=o.p.out e λb _ d=>by have h:=o.qa b d;have g:=Gi h.2.2;exact⟨g.1,g.2.1,g.2.2.1,g.2.2.2,h.1⟩
 have s:=aI.bR o.rl e λb _ m F=>o.qq b F m;refine(e.bT o.b r).s1 (by simp[uL]) λu B b=>?_;have j:=B.ext;have C:=B.1;have g:=Gi y;refine hK u j ⟨G.out j λb _ (d:b=xb)=>by subst d;exact⟨g.1,g.2.1,g.2.2.1,g.2.2.2,z⟩,b,aI.bR hr j λb _ i (d:b=xb)=>?_,aI.bR s j λb _ i (d:b=xb)=>A (d▸i),⟨z,y,?_,A⟩,λb d=>?_,λb d=>by have h:=o.ql b d;exact⟨h.1,O,h.2.2⟩,λb d m=>?_⟩
 ·subst d;rcases i with i|i
  ·exact r i
  ·omega
 ·rintro(i|i)
  ·exact r i
  ·omega
 ·rcases d with d|d
  ·have h:=o.qa b d;exact⟨h.1,O,h.2.2⟩
  ·have:=o.p.e.1;exact⟨O,O,λE=>by have:=wR o.p E;omega⟩
 ·rcases d with d|d
  ·exact o.qq b d m
  ·have:=(o.ql b m).2.1;omega
theorem kD.gI (o:kD σ0 U xb L H held s0 P gb km fm x Qa Ql addrs ad ls la){s':Sl}{la':List T3}{Ql':Rg}(e:Ext Ql U w)(hr:bS s' 3 (jZ la') w Ql')(hQ:∀b,Ql' b->Ql b\/U.size<=b/\b<w.size){K:aP}
 (hK:∀u,Ext (· = xb) w u->kD σ0 u xb L H held s0 P gb km fm x Qa Ql' addrs ad s' la'->K u):dX (Addr.add ⟨xb,0,none⟩ 2) (.slice s'.a s'.len s'.cap) w K:=by
 have M:=e.1;have E:=o.b.lt;obtain⟨z,y,A,B⟩:=o.vf;have J:=o.p.out e λb _ d=>by have h:=o.ql b d;have g:=Gi h.2.2;exact⟨g.1,g.2.1,g.2.2.1,g.2.2.2,h.1⟩
 have m:=aI.bR o.ra e λb _ G i=>o.qq b G i;refine(e.bT o.b B).s1 (by simp[uL]) λu C b=>?_;have j:=C.ext;have D:=C.1;have g:=Gi y;have s:¬Ql' xb:=λh=>by
  rcases hQ xb h with h|h
  ·exact B h
  ·omega
 refine hK u j ⟨J.out j λb _ (d:b=xb)=>by subst d;exact⟨g.1,g.2.1,g.2.2.1,g.2.2.2,z⟩,b,aI.bR m j λb _ r (d:b=xb)=>A (d▸r),aI.bR hr j λb _ r (d:b=xb)=>s (d▸r),⟨z,y,A,s⟩,λb d=>by have h:=o.qa b d;exact⟨h.1,O,h.2.2⟩,λb d=>?_,λb d i=>?_⟩
 ·rcases hQ b d with d|d
  ·have h:=o.ql b d;exact⟨h.1,O,h.2.2⟩
  ·have:=o.p.e.1;exact⟨O,O,λF=>by have:=wR o.p F;omega⟩
 ·rcases hQ b i with i|i
  ·exact o.qq b d i
  ·have:=(o.qa b d).2.1;omega
theorem Fj {s:Sl}{l:List T3}(hs:cX s 3 (jZ l) U F){i:Nat}{r:T3}(hb:l[i]?=some r){K:Addr->Prop}(hK:∀bb o,(∀(j:Nat) v,(v3 r)[j]?=some v->cell U ⟨bb,o+j,none⟩=some v)->K ⟨bb,o,none⟩):Ix s.a s.len (i:Int) 3 K:=by
 have p:=(cW.1 hb).1;have w:s.len=l.length:=by have:=hs.1;rw[V9]at this;omega
 obtain⟨b,o,g,_⟩:=hs.cell (j:=i*3+0) (v:=.int .i64 r.1) ((U8 hb O).trans rfl);rw[g];refine ix O O ?_;rw[add_lit];refine hK b _ λj v e=>?_;have m:j<3:=(cW.1 e).1;obtain⟨y,x,d,u⟩:=hs.cell ((U8 hb m).trans e);rw[g]at d;cases d;rw[show o+(i:Int).toNat*3+j=o+(i*3+j) by omega];exact u
theorem Pt {S:aP}(hr:bS ls 3 (jZ la) U Q)(hl:la.length<=100000)(k:T3)(hS0:∀u,bK U u->S u){e t:Nat}{K:Sl->Hp->Prop}
 (hK:∀s' w,Ext Q U w->bS s' 3 (jZ (la++[k])) w (λb=>Q b\/U.size<=b/\b<w.size)->S w/\K s' w) :
 Nw (.cells #[.int .i64 k.1,.int .i64 k.2.1,.int .i64 k.2.2] t (0,0)) U λn v=>And (S v)<|App ls 3 24 e [.int .i64 0,.int .i64 0,.int .i64 0] ⟨some n,1,1⟩ v λs' w=>And (S w)<|K s' w:=by
 have s:ls.len=la.length:=by have:=hr.1;rw[V9]at this;omega
 refine nw (cs:=v3 k) λv m e1 a=>⟨hS0 v e1,?_⟩;have g:=aI.bO hr e1;refine g.app (ys:=v3 k) rfl (by simp[v3]) ?_ (by simp[v3,dQ]) ?_ ?_ mG λs' h' p i d=>?_
 ·intro j u hu;rw[add_lit,zH,a.cell];exact hu
 ·simp only;omega
 ·simp only;omega
 ·have x:Ext Q U h':=e1.to.trans i;refine hK s' h' x ?_;rw[A8];refine aI.mono (aI.cut d) λb y r=>?_;rcases r.1 with h1|h1
  ·exact .inl h1
  ·exact .inr ⟨O,y⟩
inductive k7 (H:Hw) (x:Gu) (d:fI) (a:Int):Hw->Gu->Int->Option Int->Bool->Prop where
 | same (e:Int):(e=0->d.kd≠20/\d.kd≠21/\d.kd≠22)->k7 H x d a H x e none false
 | full {H':Hw} {e:Int}:d.kd=20->mV d.a d.b=true->e≠0->Ua H d.th 0 (zA d.b+YR d.a+16) (zA d.b) 0 H' 0 e->fY H H'->H'.live=H.live->k7 H x d a H' x e none false
 | eV {b:B5} {H1:Hw}:d.kd=20->yi H x d.a d.b b H1->Ua H d.th 0 (zA d.b+YR d.a+16) (zA d.b) 0 H1 b.2.2.1 0->fY H H1->k7 H x d a {H1 with sp:=j2 H1.sp b} (x.eV b) 0 (some b.1) false
 | og {b:B5} {H1:Hw} {e:Int}:(d.kd=21\/d.kd=22)->bW x.kn a=some b->lZ H x d.th a true=0->Ua (iw H b) d.th 1 0 0 b.2.2.1 H1 0 e->fY (iw H b) H1->oS (iw H b) d.th b.2.2.1 H1 e->k7 H x d a H1 (x.gone a) 0 none true
 | wrote:d.kd=26->rE H x a 0->k7 H x d a {H with sp:=ZU H.sp a d.va} x (eH H.sp a) none false
def wS (d:fI)(add:Option Int)(del:Bool)(a:Int)(la:List T3):List T3:=match add with
 | some b=>la++[(b,d.a,d.b)]
 | none=>if del then la.filter λq=>!(q.1==a)else la
theorem wW {P' Qa' Ql':Rg}(hP:∀b,Mg P' gb km fm b->Mg P gb km fm b\/n<=b)(hA:∀b,Qa' b->Qa b\/n<=b)(hL:∀b,Ql' b->Ql b\/n<=b):∀b,pY P' gb km fm xb Qa' Ql' b->pY P gb km fm xb Qa Ql b\/n<=b:=by
 rintro b (h|h|h|h)
 ·exact(hP b h).imp .inl id
 ·exact .inl (.inr (.inl h))
 ·exact(hA b h).imp (λh=>.inr (.inr (.inl h))) id
 ·exact(hL b h).imp (λh=>.inr (.inr (.inr h))) id
set_option maxRecDepth 16000 in
theorem El (o:kD σ0 U xb L H held s0 P gb km fm x Qa Ql addrs ad ls la)(gc:Gc σ0)(xi:∀e∈x.kn,e.1=e.2.1/\gZ e.2)(x0:0<=x.no/\x.no<=100000)(hsw:(pq H x).length<=1000000)(hal:ad.length<=100000)(hll:la.length<=100000)(d:fI)(di:lA d){R:aN}
 (hR:∀e w L' H' held' s0' P' x' Qa' Ql' addrs' ls' add del,kD σ0 w xb L' H' held' s0' P' gb km fm x' Qa' Ql' addrs' (ad++add.toList) ls' (wS d add del (nQ ad d) la)->L'.p=L.p->k7 H x d (nQ ad d) H' x' e add del->Qr H' H->Ext (pY P gb km fm xb Qa Ql) U w/\(∀b,pY P' gb km fm xb Qa' Ql' b->pY P gb km fm xb Qa Ql b\/U.size<=b)->R e w) :
 WZ.c (aW xb) d.kd d.th d.a d.b d.of d.pl d.va d.s U R:=by
 refine WZ.o ?_;unfold WZ.v;have tM:∀{u u':Hp},Ext (Mg P gb km fm) u u'->Ext (pY P gb km fm xb Qa Ql) u u':=λe=>e.sub λb g=>.inl g;have tX:∀{u u':Hp},Ext (· = xb) u u'->Ext (pY P gb km fm xb Qa Ql) u u':=λe=>e.sub λb g=>.inr (.inl g);have tA:∀{u u':Hp},Ext Qa u u'->Ext (pY P gb km fm xb Qa Ql) u u':=λe=>e.sub λb g=>.inr (.inr (.inl g));have tL:∀{u u':Hp},Ext Ql u u'->Ext (pY P gb km fm xb Qa Ql) u u':=λe=>e.sub λb g=>.inr (.inr (.inr g));have hxb:=o.b.lt;have h00:=o.p.e.1;have G:gb<U.size/\km<U.size/\fm<U.size:=⟨o.p.b.lt,o.p.m.lt,o.p.f.lt⟩;refine nw (cs:=qi d) λv hz e g=>aG ((o.fr e).b.rS rfl (g.rI rfl (g.rI rfl (g.rI rfl (g.rI rfl (g.rI rfl (g.rI rfl (g.rI rfl (g.rT rfl ?_)))))))));have o1:=o.fr e;refine Cq (bS.gY o1.ra) d λv1 e1=>?_;have o2:=o1.fr e1;have E:=e.trans e1;have zv:U.size<=v1.size:=E.1;have C:=e1.bT g id;have aa:=JI (ad:=ad) di;generalize hx:nQ ad d=ax at aa hR;have hnM:¬Mg P gb km fm U.size:=λN=>by have:=wR o.p N;omega
 have same:∀e w,(e=0->d.kd≠20/\d.kd≠21/\d.kd≠22)->bK v1 w->R e w:=λe w he z=>by
  have oo:=o.fr (E.trans z);refine hR e w L H held s0 P x Qa Ql addrs ls none false ?_ rfl (.same e he) (Qr.refl _) ⟨bK.to (E.trans z),λ_=>.inl⟩;rw[show ad++(none:Option Int).toList=ad by simp];exact oo
 refine C.rI rfl (cO (λhk=>?_) λhk0=>?_)
 ·have A:d.kd=20:=by simpa using hk
  refine⟨λm=>bK v1 m,Ext.refl _ _,aG (iF (c:=.p) (y:=some ⟨gb,0,none⟩) (λm e=>e.bT o2.b id) rfl (iF (c:=bN) (y:=d.th) (λm e=>e.bT C id) rfl (iF (c:=bN) (y:=d.a) (λm e=>e.bT C id) rfl (iF (c:=bN) (y:=d.b) (λm e=>e.bT C id) rfl ?_))))⟩;refine Hl o2.p gc x0 d.th d.a d.b (λw hgk z=>?_) (λe w ts H' held' s0' P' hgk B hw op V D X j=>?_) λb w ts H1 held' s0' P' gr hw op D X j=>?_
  ·exact cB aB (same 1 w (λh=>by cases h) z)
  ·refine cB (by simpa using B) ?_;have o3:=o2.fo (D.sub λc Z=>.inl Z) X j;refine hR e w {L with ts:=ts} H' held' s0' P' x Qa Ql addrs ls none false ?_ rfl (.full A hgk B hw op V) op.kp ⟨(bK.to E).trans (tM (D.sub λc Z=>.inl Z)),wW (vn G λb h=>(j b h).imp id λh=>ze zv h) (λ_=>.inl) (λ_=>.inl)⟩;rw[show ad++(none:Option Int).toList=ad by simp];exact o3
  ·refine cD rfl ?_;have o3:=o2.fo D X j;have hb3:=D.bT C hnM;refine aG (o3.b.rS rfl (Ds o3.ra O b.1 λs' u1 e4 hr4=>aG (o3.cC e4 hr4 λu2 e5 o5=>?_)));have hb5:bY u2 U.size (qi d):=e5.bT (e4.bT hb3 λhq=>by have:=(o.qa _ hq).2.1;omega) λ(hx:U.size=xb)=>by omega
   refine⟨λm=>bY m xb (uL gb s' ls)/\bY m U.size (qi d),⟨o5.b,hb5⟩,aG (iF (c:=.s) (y:=ls) (λm N=>N.1) rfl (iF (c:=bN) (y:=d.a) (λm N=>N.2) rfl (iF (c:=bN) (y:=d.b) (λm N=>N.2) rfl ?_)))⟩;refine Pt o5.rl hll (b.1,d.a,d.b) (λu W=>⟨W.bT o5.b id,W.bT hb5 id⟩) λs2 u3 e6 hr6=>⟨⟨e6.bT o5.b o5.vf.2.2.2,e6.bT hb5 λhq=>?_⟩,aG (o5.gI e6 hr6 (λ_ h=>h) λu4 e7 o7=>?_)⟩
   ·have:=(o.ql _ hq).2.1;omega
   have z3:=D.1;have z4:=e4.1;have z5:=e5.1;exact hR 0 u4 _ _ held' s0' P' _ _ _ s' s2 (some b.1) false o7 rfl (.eV A gr hw op) op.kp ⟨((((((bK.to E).trans (tM D)).trans (tA e4)).trans (tX e5)).trans (tL e6)).trans (tX e7)),wW (vn G λb h=>(j b h).imp id λh=>ze zv h) (λb h=>h.imp id λh=>ze (ze zv z3) h.1) (λb h=>h.imp id λh=>ze (ze (ze (ze zv z3) z4) z5) h.1)⟩
 have k0:d.kd≠20:=by simpa using hk0
 have jn:(d.kd=21\/d.kd=22)\/¬(d.kd=21\/d.kd=22):=Decidable.em _;refine xB (λr u=>u=v1/\r=decide (d.kd=21\/d.kd=22)) (λr u ⟨hu,hr⟩=>?_) λJ hJ=>cO (λh=>hJ _ _ ⟨rfl,?_⟩) λh=>hJ _ _ ⟨rfl,?_⟩
 ·rw[hu];rcases jn with A|A
  ·refine cD (by rw[hr];exact zJ A) (aG (o2.b.rP rfl (C.rI rfl (Ga (Gz o2.p gc xi d.th ax true (λw B z=>?_) λb w ts H1 held' s0' P' e N hf hw op fe D X j=>?_)))))
   ·exact cB (by simpa using B) (same _ w (λh=>absurd h B) z)
   ·refine cD rfl ?_;have o3:=o2.fo D X j;have hb3:=D.bT C hnM;have hll3:ls.len=la.length:=by have:=o3.rl.1;rw[V9]at this;omega
    have z3:=D.1;refine UO (a:=.s) (bb:=bN) (λ(l:Sl) (i:Int) u=>∃k:Nat,i=k/\k<=la.length/\Ext (λb=>w.size<=b) w u/\bS l 3 (jZ ((la.take k).filter λq=>!(q.1==ax))) u (λb=>w.size<=b)) (λ_ i _=>la.length-i.toNat) ⟨0,rfl,O,Ext.refl _ _,⟨rfl,.inl ⟨rfl,rfl⟩⟩⟩ ?_;rintro(l:Sl) (i:Int) u ⟨k,rfl,hk,W,V⟩;have eu0:bK w u:=⟨W.1,λb g _=>W.2 b g O⟩;have ou:=o3.fr eu0;have hlk:l.len<=k:=by
     have h1:((la.take k).filter λq:T3=>!(q.1==ax)).length*3=l.len*3:=by have:=V.1;rw[V9]at this;exact this
     have h2:=qe (λq:T3=>!(q.1==ax)) (la.take k);rw[zZ,pB hk]at h2;omega
    refine aG (ou.b.rS rfl (cQ (λhlt=>?_) λhge=>?_))
    ·have hk':k<la.length:=by simp only at hlt;omega
     have hg:la[k]?=some la[k]:=cV _;generalize la[k]=q at hg;have htk:la.take (k+1)=la.take k++[q]:=by rw[lI,hg];rfl
     refine aG (ou.b.rS rfl (Fj (bS.gY ou.rl) hg λbb o' K=>fC (K 0 _ rfl) (cO (λB=>?_) λY=>?_)))
     ·have B:¬q.1=ax:=by simpa using B
      refine aG (ou.b.rS rfl (Fj (bS.gY ou.rl) hg λbb o' K=>fC (K 0 _ rfl) (fC (K 1 _ rfl) (fC (K 2 _ rfl) ?_))));have hl1:=V.1;rw[V9]at hl1;refine V.push (F:=λb=>w.size<=b) (vs:=v3 q) (λb g=>by have:=W.1;omega) rfl rfl (by simp[v3,dQ]) O O λs' w' hsl' ew' hr'=>?_;refine cP (m:=k+1) O O ⟨⟨k+1,rfl,O,W.trans ew',?_⟩,O⟩;rw[htk,tT,tE (by simpa using B),List.filter_nil,A8];exact hr'
     ·have Y:q.1=ax:=by simpa using Y
      refine cP (m:=k+1) O O ⟨⟨k+1,rfl,O,W,?_⟩,O⟩;rw[htk,tT,uq (by simp[Y]),List.filter_nil,kX];exact V
    ·have hkk:k=la.length:=by simp only at hge;omega
     subst hkk;rw[m7]at V;refine aG (o3.gI (Ql':=λb=>w.size<=b/\b<u.size) eu0.to (aI.mono (aI.cut V) λb _ g=>g) (λb g=>.inr g) λu2 e7 o7=>?_);refine hR 0 u2 {L with ts:=ts} H1 held' s0' P' _ Qa (λb=>w.size<=b/\b<u.size) addrs l none true ?_ rfl (.og A N hf hw op fe) op.kp ⟨(((bK.to E).trans (tM D)).trans (bK.to eu0)).trans (tX e7),wW (vn G λb h=>(j b h).imp id λh=>ze zv h) (λ_=>.inl) (λb h=>.inr (ze (ze zv z3) h.1))⟩;rw[show ad++(none:Option Int).toList=ad by simp];exact o7
  ·have h3:d.kd≠20/\d.kd≠21/\d.kd≠22:=⟨k0,λh=>A (.inl h),λh=>A (.inr h)⟩;refine cB (by rw[hr];exact zM A) (cO (λ_=>aG (o2.b.rP rfl (FK o2.p xi ax λs w Q z _ _=>same _ w (λ_=>h3) z))) λ_=>?_);refine cO (λ_=>aG (o2.b.rP rfl (Pg o2.p xi hsw λs w z _=>same 0 w (λ_=>h3) z))) λ_=>?_;refine cO (λ_=>aG (o2.b.rP rfl (yW o2.p xi ax aa.2 (λe w _ z _=>same e w (λ_=>h3) z) λw z _=>same _ w (λ_=>h3) z))) λ_=>?_;refine cO (λh26=>aG (o2.b.rP rfl (C.rI rfl (UX o2.p gc xi ax d.va aa.2 (λe w _ z _=>same e w (λ_=>h3) z) λw s0' P' wd D X j=>?_)))) λ_=>?_
   ·have o3:=o2.fo (D.sub λc Z=>.inl Z) X j;refine hR _ w L _ held s0' P' x Qa Ql addrs ls none false ?_ rfl (.wrote (by simpa using h26) wd) (Qr.refl _) ⟨(bK.to E).trans (tM (D.sub λc Z=>.inl Z)),wW (vn G λb h=>(j b h).imp id λh=>ze zv h) (λ_=>.inl) (λ_=>.inl)⟩;rw[show ad++(none:Option Int).toList=ad by simp];exact o3
   refine cO (λ_=>aG (o2.b.rP rfl ?_)) λ_=>same 0 v1 (λ_=>h3) (Ext.refl _ _);have S:∀{e w:_} {a b c f:Int},bK v1 w->Nw (.cells #[.int .i64 0,.int .i64 0,.int .i64 0,.int .i64 0] 52 (0,0)) w λM v20=>dX (M.add 0) (.int .i64 a) v20 λv21=>dX (M.add 1) (.int .i64 b) v21 λv22=>dX (M.add 2) (.int .i64 c) v22 λv23=>dX (M.add 3) (.int .i64 f) v23 λv24=>R e v24:=λ{e w a b c f} z=>
    nw (cs:=[.int .i64 0,.int .i64 0,.int .i64 0,.int .i64 0]) λv20 hz20 e20 b20=>b20.s1 aA λv21 o21 b21=>b21.s1 aA λv22 o22 b22=>b22.s1 aA λv23 o23 b23=>b23.s1 aA λv24 o24 b24=>
     same e v24 (λ_=>h3) (z.trans (Ext.fresh e20 (((o21.ext.trans o22.ext).trans o23.ext).trans o24.ext) λi (hi:i=w.size)=>O))
   exact Ry o2.p xi ax (λw z _=>S z) λk w z _ _=>S z
 ·rw[h,zJ (Or.inl (by simpa using h))]
 ·have h21:¬d.kd=21:=by simpa using h
  rw[lO,zS,decide_eq_true_iff];exact⟨.inr,λh=>h.resolve_left h21⟩
end Go.Ar
namespace Go.Ar
open Go Go.Vc Go.Proofs
open Go.Vc (bW dB cS)
open Go.Bu (eU KP Uz)
variable {size align a:Int}{U σ0 v w w':Hp}{F P Q X T:Rg}{L:dH}{H H' H1:Hw}{held held' held1:List Pc}{s0 s0' s1 sp:Sp}{t n:Nat}{gb km fm m xb:Nat}{x x' y:Gu}{b:B5}{ad:List Int}{la:List T3}{d:fI}{add:Option Int}{del:Bool}{e:Int}{l:Sl}{ds:List fI}
theorem Ck {s c al:Int}{i:Int}(h1:256%al=0)(h2:c%al=0):(s*256+i*c)%al=0:=by
 obtain⟨b,e1⟩:=xe h1;obtain⟨a,e2⟩:=xe h2;refine Int.emod_eq_zero_of_dvd ⟨s*b+i*a,?_⟩;rw[e1,e2,Int.mul_add,Int.mul_left_comm s,Int.mul_left_comm i]
theorem OV (hi1:HI H1 held1 s1)(hp:HI H held s0)(ht:H1.tb=H.tb){al base:Int}(h256:256%al=0)(me:pJ H size al H1 base 0):base%al=0:=by
 rcases me with⟨h,_⟩|⟨_,hm,_,cl,hl,hcl⟩
 ·exact absurd rfl h
 have x:(base,((base,(GH H.tb size al).1,cl,XP H1.bX base):Bk))∈H1.live:=by rw[hl];exact Vf (AF _)
 obtain⟨_,p,m,_,D,B,_,_⟩:=hi1.lv _ x;obtain⟨A,C,hd⟩:=hi1.wi.hf p m;simp only at D B;rcases hd with⟨q1,_,r,_,q2,_⟩|⟨j,c,q1,q2,_,q3,_⟩
 ·rw[←B,q2];have:((r.1*256:Nat):Int)=(r.1:Int)*256+0*0:=by omega
  rw[this];exact Ck h256 aA
 ·rcases hcl with⟨k,rfl,hk⟩|⟨rfl,_⟩
  ·have y:j=k:=by omega
   subst y;obtain⟨G,b,_,g⟩:=ED hk;have d:A.tb=H1.tb:=hi1.wi.tb _ A C;rw[d,ht,b]at q2;cases q2;obtain⟨w,F,a,u⟩:=q3;have e:=(hi1.wi.ga _ A C).cE _ _ _ a;have z:w=c:=by
    have:=a.1;rw[d,ht,b]at this;exact(Option.some.inj this).symm
   subst z;obtain⟨_,s,i,_,_,E,_⟩:=(Vq e).1 u;rw[←B,E];have:((at_ w s i:Nat):Int)=(s.st:Int)*256+(i:Int)*(w.size:Int):=by unfold at_;simp
   rw[this];exact Ck h256 g
  ·omega
theorem IH {al:Int}(h1:1<=al)(h2:al<=256)(hp:eU al=true):256%al=0/\(al<16->16%al=0):=by
 obtain⟨al,rfl⟩:=za (show 0<=al by omega);rw[KP]at hp;have key:∀a:Nat,a<=256->1<=a->(a &&& (a-1)=0)->256%a=0/\(a<16->16%a=0):=by decide +kernel
 have:=key al O O (by have:=Uz (a:=al) O O;rw[hp]at this;simpa using this);exact⟨by rw[show(256:Int)=((256:Nat):Int)from rfl,←Int.natCast_emod,this.1];rfl,λh=>by rw[show(16:Int)=((16:Nat):Int)from rfl,←Int.natCast_emod,this.2 O];rfl⟩
theorem Lc {al:Int}(h1:1<=al)(h2:al<=256)(hp:eU al=true):256%zA al=0/\zA al%al=0:=by
 have:=IH h1 h2 hp;unfold zA;split
 ·exact⟨by decide,this.2 O⟩
 ·exact⟨this.1,by simp⟩
structure AL (H:Hw) (x:Gu) (ad:List Int) (la:List T3):Prop where
 g:dU H x
 n0:0<=x.no
 nl:(x.kn.length:Int)<=x.no/\(ad.length:Int)<=x.no
 lq:la.map (λa=>(a.1,a.2.1,zA a.2.2))=x.kn.map (λe=>(e.1,e.2.2.1,e.1-e.2.2.2.1))
 ok:∀a∈la,mV a.2.1 a.2.2=true/\a.1%a.2.2=0
 dq:∀a∈ad,(bW x.kn a).isSome=true\/bW x.fr a=some true
 th:1<=H.cf.threads
theorem AL.out (al:AL H x ad la)(hi:HI H held s0)(cf:kR H)(o:k7 H x d a H' x' e add del):AL H' x' (ad++add.toList) (wS d add del a la)/\x'.no<=x.no+1/\∀k∈x.kn,¬(k.1<=a/\a<k.1+YR k.2.2.1)->Kept H x H' x' k:=by
 have g:=al.g;have E:ad++(none:Option Int).toList=ad:=by simp
 cases o with
 | same e S=>rw[E];exact⟨al,O,λk j _=>⟨j,λ_ _=>rfl⟩⟩
 | full j y r F op hl=>
  rw[E];obtain⟨w,D⟩:=g.same hi op hl;exact⟨⟨w,al.n0,al.nl,al.lq,al.ok,al.dq,by rw[op.kp.2.1];exact al.th⟩,O,λk j _=>D k j⟩
 | eV j gr F op=>
  rename_i b H1;obtain⟨Q,s1,C⟩:=op.hi;obtain⟨w,V,Y,_,_⟩:=g.eV hi gr op C;have A:=gr.ok;unfold mV at A;rw[zF,zU]at A;obtain⟨⟨_,_,X,Z⟩,kp⟩:=A;obtain⟨M,P⟩:=Lc X Z kp;have L:=OV C hi op.kp.1 M gr.me;have B:(x.eV b).no=x.no+1:=rfl;have J:(x.eV b).fr=x.fr:=rfl;refine⟨⟨w,by have:=al.n0;omega,⟨?_,?_⟩,?_,λq u=>?_,λz p=>?_,by show 1<=H1.cf.threads;rw[op.kp.2.1];exact al.th⟩,O,λk j _=>Y k j⟩
  ·rw[V,B,zP];have:=al.nl.1;simp;omega
  ·rw[B,zP];have:=al.nl.2;simp;omega
  ·show(la++[(b.1,d.a,d.b)]).map _=_;rw[V,kC,kC,al.lq]
   congr 1
   simp only[zT,qT,gr.s];have:=gr.a
   congr 3
   omega
  ·rcases zK.1 (show q∈la++[(b.1,d.a,d.b)]from u)with u|u
   ·exact al.ok q u
   ·rw[zN]at u;subst u;refine⟨gr.ok,?_⟩;show b.1%d.b=0;obtain⟨q1,e1⟩:=xe L;obtain⟨W,e2⟩:=xe P;refine Int.emod_eq_zero_of_dvd ⟨W*q1+W,?_⟩;rw[gr.a,e1,Int.mul_add,←Int.mul_assoc,←e2]
  ·have N:(x.eV b).kn=dB x.kn b.1 b:=rfl;rw[N,J,V1];rcases zK.1 p with p|p
   ·split
    ·exact .inl rfl
    ·exact al.dq z p
   ·simp only[Option.toList_some,zN]at p;subst p;rw[zC rfl];exact .inl rfl
 | og j hm hf F op fe=>
  rename_i b e;rw[E];have G:QU H d.th=0:=by
   by_cases h:QU H d.th=0
   ·exact h
   ·unfold lZ at hf;rw[zC h]at hf;exact absurd hf h
  obtain⟨w,D⟩:=g.free hi hm F op fe G cf.2.1;have y:(x.gone a).kn=cS x.kn a:=rfl;have K:(x.gone a).fr=dB x.fr a true:=rfl;refine⟨⟨w,al.n0,⟨?_,al.nl.2⟩,?_,λq u=>al.ok q (zI.1 u).1,λz p=>?_,by rw[op.kp.2.1];exact al.th⟩,by show x.no<=_;omega,λk j r=>D k j λh=>r ?_⟩
  ·rw[y];have h1:=qe (λq:Int×B5=>!(q.1==a)) x.kn;have h2:=al.nl.1;show((x.kn.filter _).length:Int)<=x.no;omega
  ·show(la.filter λq=>!(q.1==a)).map _=(x.kn.filter λq=>!(q.1==a)).map _;have e1:(la.filter λq=>!(q.1==a)).map (λa=>(a.1,a.2.1,zA a.2.2))=(la.map λa=>(a.1,a.2.1,zA a.2.2)).filter λq=>!(q.1==a):=by rw[vu];rfl
   have e2:(x.kn.filter λq=>!(q.1==a)).map (λe=>(e.1,e.2.2.1,e.1-e.2.2.2.1))=(x.kn.map λe=>(e.1,e.2.2.1,e.1-e.2.2.2.1)).filter λq=>!(q.1==a):=by rw[vu];rfl
   rw[e1,e2,al.lq]
  ·rw[y,K,GJ,V1];by_cases h:z=a
   ·rw[zC h,zC h];exact .inr rfl
   ·rw[zB h,zB h];exact al.dq z p
  ·have m:=g.i k j;have hs:=m.2.s;have F:=Z5 (n:=k.2.2.1) O;omega
 | wrote j wd=>
  rw[E];rcases wd with⟨h,_⟩|⟨k,j,hin,h8,_⟩
  ·cases h
  ·have m:=g.i k j;obtain⟨U,R⟩:=hin;have p:a∈Z9 k.2:=dU.jh m.2 U R h8;obtain⟨w,D,_⟩:=g.write hi j p (v:=d.va);refine⟨⟨w,al.n0,al.nl,al.lq,al.ok,al.dq,al.th⟩,O,λe S r=>D e S λh=>r ?_⟩;subst h;exact⟨by rw[m.1];exact U,by rw[m.1];exact R⟩
variable {Qa Ql:Rg}{addrs ls:Sl}
theorem kD.oB (o:kD σ0 U xb L H held s0 P gb km fm x Qa Ql addrs ad ls la)(al:AL H x ad la):(la.length:Int)<=x.no:=by
 have:=congrArg List.length al.lq;rw[zl,zl]at this;rw[this];exact al.nl.1
set_option maxRecDepth 8000 in
theorem IG (gl:Gl U)(gc:Gc U)(b b1 b2 b3 b4 b5:Int)(hd:iO U l ds)(most:Int)(hmost:most<=60){R:Option Addr->Hp->Prop}(h0:∀σ',bK U σ'->R none σ')
 (h1:∀σ' xb L H held s0 P gb km fm x Qa Ql addrs ad ls la,kD U σ' xb L H held s0 P gb km fm x Qa Ql addrs ad ls la->AL H x ad la->x.no<=60->R (some ⟨xb,0,none⟩) σ'):XJ.c b b1 b2 b3 b4 b5 l most U R:=by
 refine XJ.o ?_;unfold XJ.v;have hl:=hd.len;have hbig:=hd.wX;refine nw (cs:=[.int .i64 b,.int .i64 b1,.int .i64 b2,.int .i64 b3,.int .i64 b4,.int .i64 b5]) λv hz e A=>A.rI rfl (A.rI rfl (A.rI rfl (A.rI rfl (A.rI rfl (A.rI rfl (WH.o ?_))))));unfold WH.v;refine nw (cs:=[.int .i64 b,.int .i64 b1,.int .i64 b2,.int .i64 b3,.int .i64 b4,.int .i64 b5]) λv1 aa e1 V=>V.eZ rfl ?_;have G:=e.trans e1;have B:=e1.bT A id;refine Q8 (λr w=>v1=w/\(r=false->b1<=128/\(ds.length:Int)<=most)) (λr w ⟨hw,hr⟩=>?_) λJ hJ=>cQ (λh=>hJ _ _ ⟨rfl,λh=>by cases h⟩) λh=>FC (hJ _ _ ⟨rfl,λh'=>by have:=sK h';exact⟨O,O⟩⟩);subst hw;refine cO (λht=>h0 v1 G) λhf=>?_;obtain⟨hpg,hlm⟩:=hr hf;refine B.rI rfl (B.rI rfl (B.rI rfl (B.rI rfl (B.rI rfl (B.rI rfl (Xt.o ?_))))));unfold Xt.v;refine nw (cs:=[.int .i64 b,.int .i64 b1,.int .i64 b2,.int .i64 b3,.int .i64 b4,.int .i64 b5]) λv1' hz1' ab s=>?_;have y:=G.trans ab;refine s.rI rfl (s.rI rfl (s.rI rfl (s.rI rfl (s.rI rfl (s.rI rfl ?_)))));refine Oe (gl.bO y) (gc.bO y).gd b b1 b2 b3 b4 b5 (λv2 e2=>cD rfl (cD rfl (h0 v2 (y.trans e2)))) λv2 L0 N H0 e2 hsN hNv hh F=>cB rfl ?_;have Q:=y.trans e2;refine Db Q hh.cut F.hi F.cf (by have:=F.pg;omega) (λb A=>⟨by have:=y.1;have:N<=b:=A.1;omega,A.2⟩) (AA gl gc.gd) λw gb km fm e3 hm p=>bV.intro (cB rfl (cB rfl ?_));refine nw (cs:=uL gb ⟨none,0,0⟩ ⟨none,0,0⟩) λw1 aa e4 X=>cB rfl ?_;have p4:=p.fr e4;have o4:kD U w1 w.size L0 H0 [] (KY H0.cf.aF) _ gb km fm nH (λ_=>False) (λ_=>False) ⟨none,0,0⟩ [] ⟨none,0,0⟩ []:=
  ⟨p4,X,⟨rfl,.inl ⟨rfl,rfl⟩⟩,⟨rfl,.inl ⟨rfl,rfl⟩⟩,⟨p.e.1,λhM=>by have:=wR p hM;omega,id,id⟩,λb A=>A.elim,λb A=>A.elim,λb A=>A.elim⟩
 have Y:AL H0 nH [] []:=⟨⟨by rw[F.live];rfl,λe W=>by simp[nH]at W,λj=>by
  unfold fN;cases hj:H0.bQ[j]? with
  | none=>rfl
  | some g=>exact F.ph g (zG hj),λe W=>by simp[nH]at W,by simp[nH]⟩,by simp[nH],by simp[nH],rfl,λa ha=>by simp at ha,λa ha=>by simp at ha,F.th⟩
 refine ZS (a:=bN) (λ(z:Int) u=>∃(i:Nat) (L:dH) (H:Hw) (held:List Pc) (s0:Sp) (P:Rg) (x:Gu) (Qa Ql:Rg) (addrs:Sl) (ad:List Int) (ls:Sl) (la:List T3),z=i/\i<=ds.length/\kD U u w.size L H held s0 P gb km fm x Qa Ql addrs ad ls la/\AL H x ad la/\x.no<=i) (λz _=>ds.length-z.toNat)
  ⟨0,L0,H0,_,_,_,nH,_,_,_,[],_,[],rfl,O,o4,Y,by simp[nH]⟩ ?_
 rintro(z:Int) u ⟨i,L,H,held,s0,P,x,Qa,Ql,addrs,ad,ls,la,rfl,hi,o,al,hno⟩;refine cQ (λhlt=>?_) λhge=>?_
 ·have hx:ds[i]?=some (ds[i]' O):=cV _;generalize (ds[i]' O)=d at hx;have K:=hd.i _ (zG hx);refine hd.rd o.p.e hx λba oa D=>fC (D _ o.p.e 0 _ rfl) (fC (D _ o.p.e 1 _ rfl) (fC (D _ o.p.e 2 _ rfl) (fC (D _ o.p.e 3 _ rfl) (fC (D _ o.p.e 4 _ rfl) (fC (D _ o.p.e 5 _ rfl) (fC (D _ o.p.e 6 _ rfl) (su (D _ o.p.e 7 _ rfl) ?_)))))));have n0:=al.n0;have nl:=al.nl;have hla:=o.oB al;refine El o gc al.g.i ⟨n0,O⟩ (by rw[al.g.cF o.p.hi];simp) O O d K λer u2 L' H' E M P' x' Qa' Ql' C Z add del o' hLp out kp _=>?_;obtain⟨S,hno',_⟩:=al.out o.p.hi o.p.cf out;exact cP (m:=i+1) O O ⟨⟨i+1,L',H',E,M,P',x',Qa',Ql',C,_,Z,_,rfl,O,o',S,O⟩,O⟩
 ·exact h1 u w.size L H held s0 P gb km fm x Qa Ql addrs ad ls la o al O
end Go.Ar
namespace Go.Ar
open Go Go.Vc Go.Proofs Go.RowKit Go.Maps Go.Sort Go.Shelf
open Go.Vc (bW dB cS)
open Go.Bu (mH Gx Uk Gb VM)
variable {U σ0 v w w':Hp}{F P Q X T:Rg}{L:dH}{H H' H1:Hw}{held:List Pc}{s0 sp:Sp}{t n:Nat}{gb km fm m:Nat}{x y:Gu}{b:B5}
end Go.Ar
namespace Go.Proofs
open Go.Vc
set_option maxRecDepth 100000
end Go.Proofs
namespace Go.Ar
open Go Go.Vc Go.Proofs
open Go.Vc (bW dB cS)
variable {U σ0 v w w':Hp}{F P Q X T:Rg}{L:dH}{H H' H1:Hw}{held:List Pc}{s0 sp:Sp}{t n:Nat}{gb km fm m xb:Nat}{x y:Gu}{b:B5}{l:Sl}{ds:List fI}{ad:List Int}{la:List T3}{Qa Ql:Rg}{addrs ls:Sl}
theorem EF (z:Int)(h0:0<=z)(h1:z<=1000000){R:aN}(hR:R (YR z) U):XR.c z U R:=by
 refine XR.o ?_;unfold XR.v;refine ar O O (ar O O (nz aB (ar (by rw[Xs O];omega) (by rw[Xs O];omega) ?_)));rw[Xs O];refine ar O O ?_;have:(z+8-1)/8*8=YR z:=by unfold YR;omega
 rw[this];exact hR
end Go.Ar
namespace Go.Proofs
open Go.Vc
set_option maxRecDepth 100000
def WN.h:Hn:=.q .o2 (.q .o4 (.q (.q (.cR (.seq [.op,.op,.op,.cU false 2 [.op,.op]])) .aJ) (.q (.o 12) (.q (.q .o2 .aJ) (.q .o4 (.q (.q .o1 (.k (.loop [(19,.I)] (.q (.q .o3 (.c .l .l)) (.q (.k (.q (.o 14) (.q (.cR (.seq [.op,.op,.op,.cU false 2 [.op,.op]])) .aK))) .o3))))) (.q .o8 (.q (.q .o8 .aK) (.q (.q .o1 (.k (.loop [(23,.I)] (.q (.q .o4 (.c .l .l)) (.q (.k (.q (.cR (.tail 8 (RI.ops 8) [.op,.op])) (.q (.q (.cR (.seq [.op,.op,.op,.op,.cU true 6 (RI.ops 6)])) (.c .l .l)) .o6))) .o3))))) (.q (.q .o1 (.k (.loop [(25,.I)] (.q (.q .o3 (.c .l .l)) (.q (.k (.q .o5 (.q (.o 11) (.q (.cR (.seq [.op,.op,.op,.cU false 8 [.op,.op,.op,.op,.cU true 3 (RI.ops 3)],.op,.cU false 7 [.op,.op,.op,.op,.cU true 2 [.op,.op]]])) .aK)))) .o3))))) .aL))))))))))
def WN.v (a b c d e f:Int)(g h:Sl)(i j k l:Int)(m:Hp)(n:aO):Prop:=aV #[.I a,.I b,.I c,.I d,.I e,.I f] 25 m λo p=>aQ o 0 p λq=>aQ o 1 p λr=>aQ o 2 p λs=>aQ o 3 p λt=>aQ o 4 p λu=>aQ o 5 p λv=>XJ.c q r s t u v g 30 p λw x=>bV (λy z=>If y (WG.c z λaa ab=>n aa ab) (bF w 0 z λad=>W8.c ad 0 i j z λae af ag=>If (af != 0) (WG.c ag λah ai=>n ah ai) (XR.c i ag λaj ak=>Nz 8<|bL (aj.tdiv 8) λal=>Yp [bN] (λam=>am 0 ak) λan (ao:Int) ap=>If (ao<al) (bF w 0 ap λar=>bL (8*ao) λau=>bL (ae+au) λav=>Xy.c ar av ap λaw ax ay=>bV (λaz a0=>If az (n false a0) (bL (ao+1) λa1=>an a1 a0)) λa2=>If (aw != 0) (a2 true ay) (a2 (ax != 0) ay)) (bL k λa3=>Nz al <| bL (8*(a3.tmod al)) λa4=>bL (ae+a4) λa5=>bF w 0 ap λa7=>W3.c a7 a5 l ap λa8 a9=>If (a8 != 0) (n false a9) (Yp [bN] (λba=>ba 0 a9) λbb (bc:Int) bd=>If (bc<((h.len:Nat):Int)) (bE w 1 bd λbf=>Ix h.a h.len bc 8 λbg=>aQ bg 0 bd λbh=>aQ bg 1 bd λbi=>aQ bg 2 bd λbj=>aQ bg 3 bd λbk=>aQ bg 4 bd λbl=>aQ bg 5 bd λbm=>aQ bg 6 bd λbn=>bC bg 7 bd λbo=>XW.c bf bh bi bj bk bl bm bn bo bd λbp bq=>bV (λbr bs=>If br (bL (bc+1) λbt=>bb bt bs) (Ix h.a h.len bc 8 λbu=>aQ bu 0 bs λbv=>
 aQ bu 1 bs λbw=>aQ bu 2 bs λbx=>aQ bu 3 bs λbz=>aQ bu 4 bs λb0=>aQ bu 5 bs λb1=>aQ bu 6 bs λb2=>bC bu 7 bs λb3=>WZ.c w bv bw bx bz b0 b1 b2 b3 bs λb4 b5=>bL (bc+1) λb6=>bb b6 b5)) λb7=>If (bp≥ae) (XR.c i bq λb8 b9=>bL (ae+b8) λca=>b7 (decide (bp<ca)) b9) (b7 false bq)) (Yp [bN] (λcb=>cb 0 bd) λcc (cd:Int) ce=>If (cd<al) (bL (8*cd) λcf=>bL (ae+cf) λcg=>bF w 0 ce λci=>Xy.c ci cg ce λcj ck cl=>bV (λcm cn=>bV (λco cp=>If co (n false cp) (bL (cd+1) λcq=>cc cq cp)) λcr=>If cm (cr true cn) (bV (λcs ct=>cr cs ct) λcu=>If (cg != a5) (cu (cj != 0) cn) (cu false cn))) λcv=>If (ck != 0) (cv true cl) (bV (λcw cx=>cv cw cx) λcy=>If (cg==a5) (cy (cj != l) cl) (cy false cl))) (WG.c ce λcz c0=>n cz c0))))))) λc1=>If w.isNone (c1 true x) (Xp.c h 30 x λc2 c3=>c1 c2 c3)
theorem WN.o {a b c d e f g h i j k l m n}(o:WN.v a b c d e f g h i j k l m n):WN.c a b c d e f g h i j k l m n:=Wa Tryz.func3 (x:=WN.h) (R0 o)
end Go.Proofs
namespace Go.Ar
open Go Go.Vc Go.Proofs
open Go.Vc (bW dB cS)
variable {a e:Int}{U σ0 v w w':Hp}{F P Q X T:Rg}{L:dH}{H H' H1:Hw}{held:List Pc}{s0 sp:Sp}{t n:Nat}{gb km fm m xb:Nat}{x x' y:Gu}{b:B5}{l more:Sl}{ds dm:List fI}{ad:List Int}{la:List T3}{Qa Ql:Rg}{addrs ls:Sl}{d:fI}{add:Option Int}{del:Bool}
theorem dU.out (g:dU H x)(hi:HI H held s0)(cf:kR H)(o:k7 H x d a H' x' e add del):dU H' x'/\(0<=x.no->0<=x'.no/\x'.no<=x.no+1)/\∀k∈x.kn,¬(k.1<=a/\a<k.1+YR k.2.2.1)->Kept H x H' x' k:=by
 cases o with
 | same e C=>exact⟨g,λh=>O,λk j _=>⟨j,λ_ _=>rfl⟩⟩
 | full j hgk p w op hl=>
  obtain⟨r,u⟩:=g.same hi op hl;exact⟨r,λh=>O,λk j _=>u k j⟩
 | eV j gr w op=>
  rename_i b H1;obtain⟨y,s1,z⟩:=op.hi;obtain⟨r,G,F,_,_⟩:=g.eV hi gr op z;exact⟨r,λh=>by show 0<=x.no+1/\x.no+1<=_;omega,λk j _=>F k j⟩
 | og j hm hf w op fe=>
  rename_i b e;have A:QU H d.th=0:=by
   by_cases h:QU H d.th=0
   ·exact h
   ·unfold lZ at hf;rw[zC h]at hf;exact absurd hf h
  obtain⟨r,u⟩:=g.free hi hm w op fe A cf.2.1;refine⟨r,λh=>by show 0<=x.no/\x.no<=_;omega,λk j p=>u k j λh=>p ?_⟩;have m:=g.i k j;have J:=m.2.s;have w:=Z5 (n:=k.2.2.1) O;omega
 | wrote j wd=>
  rcases wd with⟨h,_⟩|⟨k,j,hin,h8,_⟩
  ·cases h
  ·have m:=g.i k j;obtain⟨D,B⟩:=hin;have E:a∈Z9 k.2:=dU.jh m.2 D B h8;obtain⟨r,u,_⟩:=g.write hi j E (v:=d.va);refine⟨r,λh=>O,λe C p=>u e C λh=>p ?_⟩;subst h;exact⟨by rw[m.1];exact D,by rw[m.1];exact B⟩
theorem dU.wd (g:dU H x)(hi:HI H held s0){k:Int×B5}(hk:k∈x.kn){z:Int}(hz:z∈Z9 k.2)(h:rE H x z e):e=0:=by
 have a:=g.i k hk;have b:=Gs a.2 hz;rcases h with⟨_,h⟩|⟨q,hq,hin,_,he⟩
 ·exfalso;rcases h with h|h
  ·refine h k hk ⟨O,?_⟩;show z<k.2.1+YR k.2.2.1;omega
  ·omega
 ·rw[he,g.lost hi hq];rfl
theorem Ox (d:fI)(add:Option Int)(del:Bool)(a:Int)(la:List T3):(wS d add del a la).length<=la.length+1:=by
 unfold wS;cases add with
 | some b=>simp
 | none=>
  simp only;split
  ·have:=qe (λq:T3=>!(q.1==a)) la;omega
  ·omega
set_option maxRecDepth 16000 in
theorem OP (gl:Gl U)(gc:Gc U)(b b1 b2 b3 b4 b5:Int)(hd:iO U l ds)(hm:iO U more dm)(size align:Int){word:Int}(hw0:0<=word/\word<=255)(value:Int){R:aO}(hR:∀σ',bK U σ'->R true σ'):WN.c b b1 b2 b3 b4 b5 l more size align word value U R:=by
 refine WN.o ?_;unfold WN.v;have hml:=hm.len;refine nw (cs:=[.int .i64 b,.int .i64 b1,.int .i64 b2,.int .i64 b3,.int .i64 b4,.int .i64 b5]) λv hz e hb=>hb.rI rfl (hb.rI rfl (hb.rI rfl (hb.rI rfl (hb.rI rfl (hb.rI rfl ?_)))));have aw:∀{v1},bK U v1->WG.c v1 λt15 v2=>R t15 v2:=λe1=>MQ (gl.bO e1) (gc.bO e1) λv2 e2=>hR v2 (e1.trans e2);have S:=gc.bO e;refine IG (gl.bO e) S b b1 b2 b3 b4 b5 (hd.bO e) 30 aB (λv1 e1=>bV.intro (cD rfl (cD rfl (aw (e.trans e1))))) λv1 xb L H held s0 P gb km fm x Qa Ql aa ad ls la o al hno=>?_;have hm':=hm.bO e;refine Q8 (λr w=>v1=w/\(r=false->(dm.length:Int)<=30)) (λr w ⟨hw,hr⟩=>?_) λJ N=>cB rfl (FC (N _ _ ⟨rfl,λh'=>by have:=sK h';omega⟩));subst hw;refine cO (λ_=>aw (e.trans o.p.e)) λhf=>?_;have hdl:=hr hf;have n0:=al.n0;have nl:=al.nl;have hla:=o.oB al;refine aG (o.b.rP rfl (Hl o.p S ⟨n0,O⟩ 0 size align (λw _ ew=>cD aB (aw (e.trans (o.p.fr ew).e))) (λer w ts H' C W P' _ y _ _ _ _ p' _=>cD (by simpa using y) (aw (e.trans p'.e))) λbk w ts H1 C W P' gr hwh op e3 p3 hP3=>cB aB ?_));have o3:=o.fo e3 p3 hP3;obtain⟨held1,s1,hi1⟩:=op.hi;obtain⟨Y,gk,_,hz0,_⟩:=al.g.eV o.p.hi gr op hi1;have bi:=gr.bi;have bs:=bi.s;have bz:=bi.z;have bb:=bi.base;have bt:=bi.t;have bm:=bi.m;have X:=gr.s;have hww:=Z5 (n:=size) O;rw[X]at bs bt;have hN:(QM bk:Int)*8=YR size:=by unfold QM;rw[X];omega
 have A:(bk.1,bk)∈(x.eV bk).kn:=by rw[gk];simp
 have K:∀i:Nat,i<QM bk->bk.1+8*(i:Int)∈Z9 bk:=λi hi=>zE.2 ⟨i,zc.2 hi,rfl⟩;refine EF size O O (nz aB (ar (by rw[Xs O];omega) (by rw[Xs O];omega) ?_));rw[Xs O,show YR size/8=(QM bk:Int) by omega];refine ZS (a:=bN) (λ(z:Int) u=>bK w u/\∃i:Nat,z=i/\i<=QM bk) (λz _=>QM bk-z.toNat) ⟨Ext.refl _ _,0,rfl,O⟩ ?_;rintro(z:Int) u ⟨eu,i,rfl,hi⟩;have M:=o3.fr eu;refine cQ (λhlt=>?_) λhge=>?_
 ·have D:=K i O;refine aG (M.b.rP rfl (ar O O (ar O O (yW M.p Y.i _ O (λer V y _ wd=>absurd (Y.wd M.p.hi A D wd) y) λV e2 _=>?_))));have hv:QH (j2 H1.sp bk) (bk.1+8*(i:Int))=0:=hz0 _ D;have F:eH (j2 H1.sp bk) (bk.1+8*(i:Int))=0:=Y.acc M.p.hi A (.inr D);show bV _ λJ2=>If (QH (j2 H1.sp bk) (bk.1+8*(i:Int)) != 0) _ (J2 (eH (j2 H1.sp bk) (bk.1+8*(i:Int)) != 0) V);rw[hv,F];exact bV.intro (cB aB (cB aB (cP (m:=i+1) O O ⟨⟨eu.trans e2,i+1,rfl,O⟩,O⟩)))
 have hpos:0<QM bk:=by omega
 have hmod:word%(QM bk:Int)<(QM bk:Int):=Int.emod_lt_of_pos word O;have hmod0:0<=word%(QM bk:Int):=Int.emod_nonneg word O;refine ar O O (nz O ?_);rw[Qm hw0.1];obtain⟨j0,hj0⟩:∃j:Nat,word%(QM bk:Int)=(j:Int):=⟨(word%(QM bk:Int)).toNat,O⟩;rw[hj0];refine ar O O (ar O O ?_);have E:=K j0 O;obtain⟨vat,hvat⟩:∃z,z=bk.1+8*(j0:Int):=⟨_,rfl⟩;rw[←hvat]at E ⊢;refine aG (M.b.rP rfl (UX M.p S Y.i vat value O (λer V y _ wd=>absurd (Y.wd M.p.hi A E wd) y) λV s2 P2 _ e2 p2 hP2=>?_));have F:eH (j2 H1.sp bk) vat=0:=Y.acc M.p.hi A (.inr E);refine cB (by show(eH (j2 H1.sp bk) vat != 0)=false;rw[F];rfl) ?_;obtain⟨g4,_,hv4⟩:=Y.write M.p.hi A E (v:=value);have o4:=M.fo (e2.sub λc B=>.inl B) p2 hP2;have hno4:(x.eV bk).no=x.no+1:=rfl;refine ZS (a:=bN) (λ(z:Int) u=>∃(i:Nat) (L':dH) (H':Hw) (C:List Pc) (W:Sp) (P':Rg) (x':Gu) (Qa' Ql':Rg) (addrs':Sl) (ad':List Int) (ls':Sl) (la':List T3),z=i/\i<=dm.length/\kD v u xb L' H' C W P' gb km fm x' Qa' Ql' addrs' ad' ls' la'/\dU H' x'/\(bk.1,bk)∈x'.kn/\(∀z∈Z9 bk,QH H'.sp z=if z=vat then value else 0)/\0<=x'.no/\x'.no<=100+i/\ad'.length<=100+i/\la'.length<=100+i) (λz _=>dm.length-z.toNat)
  ⟨0,_,_,C,s2,P2,_,Qa,Ql,aa,ad,ls,la,rfl,O,o4,g4,A,λz hz=>by
   have:=hv4 z hz;rw[this];have h0:=hz0 z hz;by_cases h:z=vat
   ·rw[zC h,zC h]
   ·rw[zB h,zB h];exact h0,O,O,O,O⟩ ?_
 rintro(z:Int) u5 ⟨i,L',H',held5,s5,P5,x',Qa',Ql',addrs',ad',ls',la',rfl,hi5,o5,g5,hk5,hv5,hn0,hn1,hn2,hn3⟩;refine cQ (λhlt=>?_) λhge=>?_
 ·have hx:dm[i]?=some (dm[i]' O):=cV _;generalize (dm[i]' O)=d at hx;have hdi:=hm.i _ (zG hx);refine aG (o5.b.rS rfl (hm'.rd o5.p.e hx λba oa B=>fC (B _ o5.p.e 0 _ rfl) (fC (B _ o5.p.e 1 _ rfl) (fC (B _ o5.p.e 2 _ rfl) (fC (B _ o5.p.e 3 _ rfl) (fC (B _ o5.p.e 4 _ rfl) (fC (B _ o5.p.e 5 _ rfl) (fC (B _ o5.p.e 6 _ rfl) (su (B _ o5.p.e 7 _ rfl) ?_)))))))));refine Cq (bS.gY o5.ra) d λu6 e6=>?_;have o6:=o5.fr e6;refine Q8 (λr u7=>u7=u6/\(r=false->¬(bk.1<=nQ ad' d/\nQ ad' d<bk.1+YR size))) (λr u7 ⟨hu7,hr7⟩=>?_) λJ N=>cQ (λhge1=>EF size O O (ar O O (N _ _ ⟨rfl,λh=>by have:=sK h;omega⟩))) λhlt1=>N _ _ ⟨rfl,λ_=>O⟩;rw[hu7];refine cO (λ_=>cP (m:=i+1) O O ⟨⟨i+1,L',H',held5,s5,P5,x',Qa',Ql',addrs',ad',ls',la',rfl,O,o6,g5,hk5,hv5,hn0,O,O,O⟩,O⟩) λhrf=>?_;refine hm'.rd o6.p.e hx λba oa B=>fC (B _ o6.p.e 0 _ rfl) (fC (B _ o6.p.e 1 _ rfl) (fC (B _ o6.p.e 2 _ rfl) (fC (B _ o6.p.e 3 _ rfl) (fC (B _ o6.p.e 4 _ rfl) (fC (B _ o6.p.e 5 _ rfl) (fC (B _ o6.p.e 6 _ rfl) (su (B _ o6.p.e 7 _ rfl) ?_)))))));refine El o6 S g5.i ⟨hn0,O⟩ (by rw[g5.cF o6.p.hi];simp) O O d hdi λer u8 L8 H8 Z s8 P8 x8 Qa8 Ql8 Q ls8 add del o8 _ out _ _=>?_;obtain⟨g8,G,hkp⟩:=g5.out o6.p.hi o6.p.cf out;have G:=G hn0;obtain⟨k1,k2⟩:=hkp _ hk5 (by show ¬(bk.1<=_/\_<bk.1+YR bk.2.1);rw[X];exact hr7 hrf);have hadl:(ad'++add.toList).length<=ad'.length+1:=by cases add<;>simp
  have hlal:=Ox d add del (nQ ad' d) la';refine cP (m:=i+1) O O ⟨⟨i+1,L8,H8,Z,s8,P8,x8,Qa8,Ql8,Q,_,ls8,_,rfl,O,o8,g8,k1,λz hz=>by rw[k2 z hz];exact hv5 z hz,G.1,O,O,O⟩,O⟩
 refine ZS (a:=bN) (λ(z:Int) u=>bK u5 u/\∃i:Nat,z=i/\i<=QM bk) (λz _=>QM bk-z.toNat) ⟨Ext.refl _ _,0,rfl,O⟩ ?_;rintro(z:Int) u9 ⟨e9,j,rfl,hj⟩;have o9:=o5.fr e9;refine cQ (λhlt=>?_) λhge=>aw (e.trans o9.p.e);have D:=K j O;have hv:=hv5 _ D;have ab:eH H'.sp (bk.1+8*(j:Int))=0:=g5.acc o9.p.hi hk5 (.inr D);refine ar O O (ar O O (aG (o9.b.rP rfl (yW o9.p g5.i _ O (λer V y _ wd=>absurd (g5.wd o9.p.hi hk5 D wd) y) λV e2 _=>?_))));rw[hv,ab];refine Q8 (λr u=>u=V/\r=false) (λr u ⟨hu,hr⟩=>?_) λJ N=>cB aB (bV.intro (cO (λheq=>?_) λy=>N _ _ ⟨rfl,rfl⟩))
 ·rw[hu];refine Q8 (λr u=>u=V/\r=false) (λr u ⟨hu,hr⟩=>?_) λJ N=>cB hr (bV.intro (cO (λy=>?_) λy=>N _ _ ⟨rfl,rfl⟩))
  ·rw[hu];exact cB hr (cP (m:=j+1) O O ⟨⟨e9.trans e2,j+1,rfl,O⟩,O⟩)
  ·refine N _ _ ⟨rfl,?_⟩;have:¬bk.1+8*(j:Int)=vat:=by simpa using y
   rw[zB this];rfl
 ·refine N _ _ ⟨rfl,?_⟩;have:bk.1+8*(j:Int)=vat:=by simpa using heq
  rw[zC this];simp
end Go.Ar
namespace Go.Ar
open Go Go.Vc Go.Proofs Go.ChangeShapes Go.WideShapes Go.RowKit Go.Deep
theorem HU {H:Type}{enc:TypeId×Value->H}{P:Program}{w:World}{base:Nat}{sp:Nat->Bool}{held:Bool}{fuel:Nat}{t:TypeId}{c:Value}{y:DataW H×List MemPlace}
 (ht:P.underlying t=some .bool) (h:DataW.trod enc P w base sp held fuel t [c]=some y):∃n,c=.bool n/\y=(.lit (.bool n),[]):=by
 cases fuel with
 | zero=>simp[DataW.trod]at h
 | succ fuel=>
  cases c<;>simp[DataW.trod,ht]at h
  rename_i n;exact⟨n,rfl,by simpa using h.symm⟩
theorem G6 {P:Program}{w:World}{t:TypeId}{f0 f1:Field}{cs:Array Value}{fuel:Nat}{p:List MemPlace}{x y:Bool}(ht:P.underlying t=some (.struct #[f0,f1]))(hone:oneCellFields P #[f0,f1]=true)(hC:P.cellsOf t=2)
 (h0:P.underlying f0.type=some .bool) (h1:P.underlying f1.type=some .bool) (h:DataW.trod (λ_=>()) P w 0 (λ_=>true) false fuel t cs.toList=some (.agg [.lit (.bool x),.lit (.bool y)],p)):cs = #[.bool x,.bool y]:=by
 obtain⟨m,n,C,j,b,e,a⟩:=DataW.trod_struct ht h;obtain⟨l⟩:=cs;have d:l.length=2:=by rw[←hC];simpa using b
 match l,d with
 | [c0,c1],_=>
  have i:=a 0 f0 rfl;have g:=a 1 f1 rfl;obtain⟨z,r⟩:=hone_of hone 0 f0 rfl;obtain⟨o1,u⟩:=hone_of hone 1 f1 rfl;rw[z,r]at i;rw[o1,u]at g
  match m,e with
  | [y0,y1],_=>
   obtain⟨A,rfl,s⟩:=HU h0 (c:=c0) (y:=y0) (by simpa using i);obtain⟨B,rfl,e1⟩:=HU h1 (c:=c1) (y:=y1) (by simpa using g);subst s;subst e1;simp at j;obtain⟨⟨rfl,rfl⟩,_⟩:=j;rfl
theorem HE {w:World}{a:Addr}{v:Value}(h:w.cell? a=some v):cell w.heap a=some v:=h
end Go.Ar