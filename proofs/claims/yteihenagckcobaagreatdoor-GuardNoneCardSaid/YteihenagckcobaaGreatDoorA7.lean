/- Texts joined. -/
import Derived.Shelf.SlSortCmp.NoneTotal
import Derived.Ground.SlsfProg
import Derived.Test.YteihenagckcobaaGreatDoorProg
import Derived.Shelf.SlIterI.Nil
import Derived.Ground.GgzProg
import Derived.Test.YteihenagckcobaaGreatDoorRows
import Derived.ChangeVars
import Derived.JoinedOf
import Derived.RowKit
import Derived.WalkKit
import Derived.ProofKit
import Derived.OpenShut
import Derived.ChangeOld
import Derived.Carry
import Derived.Test.YteihenagckcobaaGreatDoorA6
set_option linter.unusedVariables false
set_option linter.unusedSimpArgs false
namespace Go.Ar
open Go Go.Vc Go.Proofs
variable {U w:Hp}
def lB:Nat->Int->Int->List T3
 | 0,_,_=>[]
 | n+1,s,w=>if s<512 then kx s w::lB n (s+u7 s w) w else[]
def allM (w:Int):List T3:=lB 64 8 w++[kx 512 w]
def Gi (l:List T3)(i:Nat):Bool:=i==l.length-1||(match l[i]?,l[i+1]? with
 | some x,some y=>x.2.1 != y.2.1||ly x != ly y
 | _,_=>false)
def kN (l:List T3)(n:Nat):List T3:=(List.range n).filterMap λi=>if Gi l i then l[i]? else none
def qA (w:Int):List T3:=kN (allM w) (allM w).length
def qM (x:T3):Prop:=8<=x.1/\x.1<=512/\1<=x.2.1/\x.2.1<=4
theorem BB (s w:Int)(h1:8<=s)(h2:s<=512):qM (kx s w):=⟨h1,h2,Mn s w 4⟩
theorem rO {Q:Rg}{s:Sl}{l:List T3}{e1 e2:Nat}(ho:Go.Vc.Own Q U s 3 (lg l))(hQ:∀b,U.size<=b->Q b)(hl:l.length<=1000)(x:T3){K:Sl->Hp->Prop}(hK:∀s' σ',Ext Q U σ'->Go.Vc.Own Q σ' s' 3 (lg (l++[x]))->K s' σ') :
 Nw (.cells #[.int .i64 x.1,.int .i64 x.2.1,.int .i64 x.2.2] e1 (0,0)) U λn20 v3=>App s 3 24 e2 [.int .i64 0,.int .i64 0,.int .i64 0] ⟨some n20,1,1⟩ v3 K:=by
 have g:s.len=l.length:=by have:=ho.1;rw[xK]at this;omega
 refine nw (cs:=v3 x) λv p e a=>?_;refine(ho.bO e).app (ys:=v3 x) (λb a=>hQ b O) rfl rfl ?_ (by simp[v3,dV]) ?_ ?_ mI λs' i _ m d _=>hK s' i ?_ ?_
 ·intro j u hu;rw[add_lit,zH,a.cell];exact hu
 ·simp only;have:(s.len+1)*24<=1001*24:=lp O O;omega
 ·simp only;omega
 ·exact(bK.to e).trans (m.sub λb a=>((ho.bO e).iY a).1)
 ·rw[EN];exact d
theorem IS (w:Int)(hw1:2<=w)(hw2:w<=16){R:Sl->Int->Hp->Prop}(hR:∀s' σ',bK U σ'->hO σ' s' (qA w)->R s' 0 σ'):XE.c w U R:=by
 refine XE.o ?_;unfold XE.v;refine bR.intro (fM O (cE (zM O) ?_));refine HD (a:=.s) (bb:=bN) (λ(all:Sl) (s:Int) u=>∃(n:Nat) (done:List T3),8<=s/\s<=768/\bK U u/\Go.Vc.Own (λb=>U.size<=b) u all 3 (lg done)/\done++lB n s w=lB 64 8 w/\512<=s+8*(n:Int)/\(∀x∈done,qM x)/\done.length+n=64) (λ_ s _=>1000-s.toNat) ⟨64,[],O,O,Ext.refl _ _,Own.nil _ _ _,rfl,O,by simp,by simp⟩ ?_;rintro(all:Sl) (s:Int) u ⟨n,done,hs1,hs2,eu,ho,hdone,hn,hok,hlen⟩;refine cR (λL=>?_) λQ=>?_
 ·obtain⟨n,rfl⟩:∃m,n=m+1:=⟨n-1,O⟩;refine Em s w O O hw1 hw2 λv2 e2=>?_;refine rO (ho.bO e2) (λb E=>by have:=eu.1;have:=e2.1;omega) O (kx s w) λall1 v4 e4 h4=>?_;have e04:bK U v4:=Ext.dS (eu.trans e2) e4 λb E=>.inr E;refine M5 s w O O hw1 λd1 d2=>ar O O ⟨⟨n,done++[kx s w],O,O,e04,h4,?_,O,λx B=>?_,by simp;omega⟩,O⟩
  ·rw[←hdone,jW]
   congr 1
   conv=>rhs;rw[lB,zC L]
   rfl
  ·rcases zL.1 B with h1|h1
   ·exact hok x h1
   ·rw[zR]at h1;subst h1;exact BB s w O O
 ·have P:lB n s w=[]:=by
   cases n with
   | zero=>rfl
   | succ n=>rw[lB,zB Q]
  rw[P,lF]at hdone;refine Em 512 w O O hw1 hw2 λv6 e6=>?_;refine rO (ho.bO e6) (λb E=>by have:=eu.1;have:=e6.1;omega) O (kx 512 w) λe v8 e8 J=>?_;have e08:bK U v8:=Ext.dS (eu.trans e6) e8 λb E=>.inr E;rw[hdone]at J;have A:∀x∈allM w,qM x:=λx B=>by
   rcases zL.1 B with h1|h1
   ·rw[←hdone]at h1;exact hok x h1
   ·rw[zR]at h1;subst h1;exact BB 512 w O O
  have hml:(allM w).length<=65:=by unfold allM;rw[←hdone];simp;omega
  have J:Go.Vc.Own (λb=>U.size<=b) v8 e 3 (lg (allM w)):=J;generalize hall:allM w=l at J A hml;have hmk:qA w=kN l l.length:=by unfold qA;rw[hall]
  have hl2:e.len=l.length:=by have:=J.1;rw[xK]at this;omega
  refine HD (a:=.s) (bb:=bN) (λ(out:Sl) (z:Int) u=>∃i:Nat,z=(i:Int)/\i<=l.length/\bK v8 u/\Go.Vc.Own (λb=>v8.size<=b) u out 3 (lg (kN l i))/\(kN l i).length<=i) (λ_ z _=>l.length-z.toNat) ⟨0,rfl,O,Ext.refl _ _,Own.nil _ _ _,by simp[kN]⟩ ?_;rintro(out:Sl) (z:Int) u ⟨i,rfl,hi,eu8,hout,hol⟩;refine cR (λL=>?_) λQ=>?_
  ·have hi':i<l.length:=by omega
   have B:l[i]?=some l[i]:=cW hi';generalize l[i]=x at B;have D:=A x (zG B);have g:kN l (i+1)=kN l i++(if Gi l i then[x]else[]):=by
    unfold kN;rw[pN,tO]
    congr 1
    by_cases hk:Gi l i=true
    ·simp[hk,B]
    ·simp[hk]
   have hA:∀m,bK u m->hO m e l:=λm d=>A0 (J.bO (eu8.trans d));refine xD (λr u'=>bK u u'/\r=Gi l i) (λr u' ⟨p,hr⟩=>?_) λJ3 G=>?_
   ·have V:=hout.bO p;cases hk:Gi l i with
    | true=>
     rw[hk]at hr g;refine cB hr (vn (hA u' p) B ?_);refine rO V (λb E=>by have:=eu8.1;have:=p.1;omega) O x λout1 v12 e12 h12=>?_;refine cQ (m:=i+1) O O ⟨⟨i+1,rfl,O,Ext.dS (eu8.trans p) e12 λb E=>.inr E,?_,?_⟩,O⟩
     ·rw[g];exact h12
     ·rw[g];simp;omega
    | false=>
     rw[hk]at hr g;refine cE hr (cQ (m:=i+1) O O ⟨⟨i+1,rfl,O,eu8.trans p,?_,?_⟩,O⟩)
     ·rw[g];simpa using V
     ·rw[g];simp;omega
   ·refine⟨λm=>bK u m,Ext.refl _ _,ar O O ?_⟩;refine cY (λF=>G _ _ ⟨Ext.refl _ _,?_⟩) λhnl=>?_
    ·have:i=l.length-1:=by simp only[zV]at F;omega
     unfold Gi;rw[this];simp
    ·have hi2:i+1<l.length:=by simp only[lM]at hnl;omega
     have Z:l[i+1]?=some l[i+1]:=cW hi2;generalize l[i+1]=y at Z;have C:=A y (zG Z);have W:Gi l i=(x.2.1 != y.2.1||ly x != ly y):=by
      unfold Gi;rw[B,Z];have:(i==l.length-1)=false:=by simp only[lM];omega
      rw[this];rfl
     have N:=λ(m:Hp) (d:bK u m)=>(hA m d).2 i x.1 x.2.1 x.2.2 B;have hcy:=λ(m:Hp) (d:bK u m)=>(hA m d).2 (i+1) y.1 y.2.1 y.2.2 Z;obtain⟨b,o,Y,_,_⟩:=N u (Ext.refl _ _);have rx:∀m,bK u m->cell m ⟨b,o+i*3,none⟩=some (.int .i64 x.1)/\cell m ⟨b,o+i*3+1,none⟩=some (.int .i64 x.2.1)/\cell m ⟨b,o+i*3+2,none⟩=some (.int .i64 x.2.2):=λm d=>by
      obtain⟨b',o',j,_,h⟩:=N m d;rw[Y]at j;cases j;exact h
     have ry:∀m,bK u m->cell m ⟨b,o+(i+1)*3,none⟩=some (.int .i64 y.1)/\cell m ⟨b,o+(i+1)*3+1,none⟩=some (.int .i64 y.2.1)/\cell m ⟨b,o+(i+1)*3+2,none⟩=some (.int .i64 y.2.2):=λm d=>by
      obtain⟨b',o',j,_,h⟩:=hcy m d;rw[Y]at j;cases j;exact h
     have X:∀{K:Addr->Prop},K ⟨b,o+i*3,none⟩->Ix e.a e.len (i:Int) 3 K:=λhK=>by
      rw[Y];exact ix O O (by rw[add_lit,dC];exact hK)
     have S:∀{K:Addr->Prop},K ⟨b,o+(i+1)*3,none⟩->Ix e.a e.len ((i+1:Nat):Int) 3 K:=λhK=>by
      rw[Y];exact ix O O (by rw[add_lit,dC];exact hK)
     refine X ⟨x.2.1,λm d=>by rw[add_lit];exact(rx m d).2.1,cQ (m:=i+1) O O (S ⟨y.2.1,λm d=>by rw[add_lit];exact(ry m d).2.1,?_⟩)⟩;refine cY (λhp=>G _ _ ⟨Ext.refl _ _,by rw[W,hp];rfl⟩) λhp=>?_;refine X ⟨x.1,λm d=>by rw[add_lit];exact(rx m d).1,⟨x.2.1,λm d=>by rw[add_lit];exact(rx m d).2.1,⟨x.2.2,λm d=>by rw[add_lit];exact(rx m d).2.2,?_⟩⟩⟩;refine cQ (m:=i+1) O O (S ⟨y.1,λm d=>by rw[add_lit];exact(ry m d).1,⟨y.2.1,λm d=>by rw[add_lit];exact(ry m d).2.1,⟨y.2.2,λm d=>by rw[add_lit];exact(ry m d).2.2,?_⟩⟩⟩);refine DD x D.1 D.2.1 D.2.2.1 D.2.2.2 λv13 H=>⟨H,DD y C.1 C.2.1 C.2.2.1 C.2.2.2 λv14 M=>⟨H.trans M,G _ _ ⟨H.trans M,by rw[W,hp];rfl⟩⟩⟩
  ·have hil:i=l.length:=by omega
   subst hil;refine hR out u (e08.trans eu8) ?_;rw[hmk];exact A0 hout
theorem Ca:∀w:Nat,2<=w->w<=16->Qe (qA (w:Int))=true:=by
 have h:((List.range 17).all λw=>decide (w<2)||Qe (qA (w:Int)))=true:=by decide +kernel
 intro w h1 h2;have:=zr.1 h w (zh.2 O);simp only[mP,zS]at this;exact this.resolve_left O
end Go.Ar
namespace Go.Proofs
open Go.Shelf
def Tryz.eJ:Go.Shelf.Ren:=⟨fun|6=>263|15=>87|14=>291|28=>128|29=>129|20=>311|21=>312|22=>313|23=>314|24=>315|25=>316|26=>317|27=>318|46=>324|47=>185|48=>186|49=>325|50=>326|57=>328|n=>n,fun|22=>129|24=>135|25=>341|3=>3|39=>145|0=>0|53=>196|55=>55|4=>4|46=>188|45=>187|50=>193|5=>5|9=>9|66=>271|70=>275|76=>324|77=>325|n=>n,fun|n=>n⟩
theorem Tryz.oa:Go.Proofs.SlLaysF0.n6 Tryz.prog Tryz.eJ:={
 mixed:=by kernel_rfl
 f6:=⟨Tryz.f263.name,by decide,Tryz.func263.trans (congrArg some (by kernel_rfl))⟩
 f14:=⟨Tryz.f291.name,by decide,Tryz.func291.trans (congrArg some (by kernel_rfl))⟩
 f15:=Tryz.func87.trans (congrArg some (by kernel_rfl))
 f20:=⟨Tryz.f311.name,by decide,Tryz.func311.trans (congrArg some (by kernel_rfl))⟩
 f21:=⟨Tryz.f312.name,by decide,Tryz.func312.trans (congrArg some (by kernel_rfl))⟩
 f22:=⟨Tryz.f313.name,by decide,Tryz.func313.trans (congrArg some (by kernel_rfl))⟩
 f23:=⟨Tryz.f314.name,by decide,Tryz.func314.trans (congrArg some (by kernel_rfl))⟩
 f24:=⟨Tryz.f315.name,by decide,Tryz.func315.trans (congrArg some (by kernel_rfl))⟩
 f25:=⟨Tryz.f316.name,by decide,Tryz.func316.trans (congrArg some (by kernel_rfl))⟩
 f26:=⟨Tryz.f317.name,by decide,Tryz.func317.trans (congrArg some (by kernel_rfl))⟩
 f27:=⟨Tryz.f318.name,by decide,Tryz.func318.trans (congrArg some (by kernel_rfl))⟩
 f28:=Tryz.func128.trans (congrArg some (by kernel_rfl))
 f29:=Tryz.func129.trans (congrArg some (by kernel_rfl))
 f46:=⟨Tryz.f324.name,by decide,Tryz.func324.trans (congrArg some (by kernel_rfl))⟩
 f47:=Tryz.func185.trans (congrArg some (by kernel_rfl))
 f48:=Tryz.func186.trans (congrArg some (by kernel_rfl))
 f49:=⟨Tryz.f325.name,by decide,Tryz.func325.trans (congrArg some (by kernel_rfl))⟩
 f50:=⟨Tryz.f326.name,by decide,Tryz.func326.trans (congrArg some (by kernel_rfl))⟩
 f57:=⟨Tryz.f328.name,by decide,Tryz.func328.trans (congrArg some (by kernel_rfl))⟩
 t0:=Tryz.underlying0
 a0:=Tryz.isAgg0
 z0:=Tryz.sizeOf0
 v0:=Tryz.zeroValue0
 t3:=Tryz.underlying3
 a3:=Tryz.isAgg3
 z3:=Tryz.sizeOf3
 v3:=Tryz.zeroValue3
 t4:=Tryz.underlying4
 a4:=Tryz.isAgg4
 z4:=Tryz.sizeOf4
 v4:=Tryz.zeroValue4
 t5:=Tryz.underlying5
 a5:=Tryz.isAgg5
 z5:=Tryz.sizeOf5
 v5:=Tryz.zeroValue5
 t9:=Tryz.underlying9
 a9:=Tryz.isAgg9
 z9:=Tryz.sizeOf9
 v9:=Tryz.zeroValue9
 t22:=Tryz.underlying129
 a22:=Tryz.isAgg129
 z22:=Tryz.sizeOf129
 v22:=Tryz.zeroValue129
 t25:=Tryz.underlying341
 a25:=Tryz.isAgg341
 z25:=Tryz.sizeOf341
 v25:=Tryz.zeroValue341
 t39:=Tryz.underlying145
 a39:=Tryz.isAgg145
 z39:=Tryz.sizeOf145
 v39:=Tryz.zeroValue145
 t45:=Tryz.underlying187
 a45:=Tryz.isAgg187
 z45:=Tryz.sizeOf187
 v45:=Tryz.zeroValue187
 t46:=Tryz.underlying188
 a46:=Tryz.isAgg188
 z46:=Tryz.sizeOf188
 v46:=Tryz.zeroValue188
 t50:=Tryz.underlying193
 a50:=Tryz.isAgg193
 z50:=Tryz.sizeOf193
 v50:=Tryz.zeroValue193
 t53:=Tryz.underlying196
 a53:=Tryz.isAgg196
 z53:=Tryz.sizeOf196
 v53:=Tryz.zeroValue196
 t55:=Tryz.underlying55
 a55:=Tryz.isAgg55
 z55:=Tryz.sizeOf55
 v55:=Tryz.zeroValue55
 t66:=Tryz.underlying271
 a66:=Tryz.isAgg271
 z66:=Tryz.sizeOf271
 v66:=Tryz.zeroValue271
 t70:=Tryz.underlying275
 a70:=Tryz.isAgg275
 z70:=Tryz.sizeOf275
 v70:=Tryz.zeroValue275
 t76:=Tryz.underlying324
 a76:=Tryz.isAgg324
 z76:=Tryz.sizeOf324
 v76:=Tryz.zeroValue324
 t77:=Tryz.underlying325
 a77:=Tryz.isAgg325
 z77:=Tryz.sizeOf325
 v77:=Tryz.zeroValue325}
end Go.Proofs
namespace Go.Ar
open Go Go.Vc Go.Proofs Go.RowKit Go.Sort Go.Shelf Go.Lib
abbrev re:=Fin 64×Sl
instance:Inhabited re:=⟨(0,⟨none,0,0⟩)⟩
def j4 (x:re):List Value:=[.int .i64 (x.1.val:Int),.slice x.2.a x.2.len x.2.cap]
def nM (x y:re):Int:=(x.1.val:Int)-(y.1.val:Int)
theorem y6 (x y:re)(W:World):Calls Tryz.prog 264 #[.agg #[.int .i64 (x.1.val:Int),.slice x.2.a x.2.len x.2.cap],.agg #[.int .i64 (y.1.val:Int),.slice y.2.a y.2.len y.2.cap]] W λe w'=>e=.returned (.int .i64 (nM x y))/\∃q os',w'=grow (W.drewN q) os':=by
 have d:IntKind.i64.wrap ((x.1.val:Int)-(y.1.val:Int))=nM x y:=by
  have g:=x.1.isLt;have b:=y.1.isLt;unfold nM;exact V8 O O
 go_enter Tryz.func264,Tryz.ntmps264
 go_wp2
 go_ret
 exact⟨rfl,0,_,by rw[alloc_eq_grow,alloc_eq_grow,grow_grow];rfl⟩
theorem ye:SWO (ltOf nM) where
 irrefl x:=by simp[ltOf,nM]
 trans x y z a h2:=by
  have a:=su a;have h2:=su h2;unfold nM at a h2;exact zK (by unfold nM;omega)
 ntrans x y z a h2:=by
  have a:=vV a;have h2:=vV h2;unfold nM at a h2;exact zM (by unfold nM;omega)
def rj (x:re):Nat×Sl:=(x.1.val,x.2)
theorem B2 (l:List re)(j:Nat)(hj:j<l.length*2):(eV (l.map rj))[j]?=some (flatK j4 2 l.toArray)[j]! := by
 rw[get_flatK _ _ _ _ (by simpa using hj)];have a:j/2<l.length:=by omega
 have e1:l.toArray[j/2]! = l[j/2]:=by rw[getElem!_pos _ _ (by simpa using a)];simp
 have b:(l.map rj)[j/2]?=some (rj l[j/2]):=by simp[a]
 have:=Ig b (d:=j%2) O;rw[show 2*(j/2)+j%2=j by omega]at this;rw[this,e1];have hd:j%2=0\/j%2=1:=by omega
 rcases hd with h|h<;>rw[h]<;>rfl
theorem AL:Hz:=by
 intro U F s xs hrow hk hlen R hR;rintro w rfl;have X:s.len=xs.length:=by have:=hrow.1;rw[Kg]at this;omega
 rcases hrow.2 with⟨h0,hc0⟩|⟨b,cs,hF,ha,hb,hle,hcl,ht⟩
 ·have N:xs=[]:=List.length_eq_zero_iff.1 O;have:=AnyF.slices_SortFunc_none Tryz.oa s.a s.cap (.func (.func 264) #[] #[]) w;show Calls _ _ #[.slice s.a s.len s.cap,.func (.func 264) #[] #[]] w _;rw[h0];refine this.mono ?_;rintro e V ⟨rfl,rfl⟩;subst N;exact⟨.refl _,[],rfl,hR [] _ (.refl _) List.Pairwise.nil (Ext.refl _ _) hrow⟩
 ·have H:∀x∈xs,x.1<64:=hk
  let toK:Nat×Sl->re:=λx=>(Fin.ofNat 64 x.1,x.2)
  have u:(xs.map toK).map rj=xs:=by
   rw[lV]
   conv=>rhs;rw[←tj xs]
   apply j5;intro x hx;simp only[Function.comp,toK,rj,Fin.ofNat,id];rw[sk (H x hx)]
  have E:(xs.map toK).length=xs.length:=by simp
  generalize xs.map toK=l at u E;have C:=hb.lt;have W:HoldsK j4 2 w b 0 l.toArray:=by
   intro j hj;simp only[size_flatK,vR]at hj;have Y:Vc.cell w.heap ⟨b,0+j,none⟩=some (flatK j4 2 l.toArray)[j]! := by
    rw[hb.cell,zH,←B2 l j hj,u];rw[←ht,zj,zC (by rw[Kg];omega)]
   exact⟨Y,hb.nb⟩
  have Z:∀args w,(callFunc 264 args).run Tryz.prog w=.ok (.enter 264 args) w:=enters_of Tryz.func264 (by kernel_rfl) rfl;have A:∀w,(isAgg (Tryz.eJ.t 24)).run Tryz.prog w=.ok true w:=λw=>by
   have h:=Ko (P:=Tryz.prog) (t:=Tryz.eJ.t 24) (d:=(Tryz.prog.underlying (Tryz.eJ.t 24)).getD .bool) (by kernel_rfl) w
   rwa [show VO ((Tryz.prog.underlying (Tryz.eJ.t 24)).getD .bool)=true by kernel_rfl]at h
  have G:∀w,(Go.sizeOf (Tryz.eJ.t 24)).run Tryz.prog w=.ok 2 w:=λw=>by
   have h:=Qt (P:=Tryz.prog) (t:=Tryz.eJ.t 24) (by kernel_rfl) w
   rwa [show Tryz.prog.cellsOf (Tryz.eJ.t 24)=2 by kernel_rfl]at h
  have z:=AnyQ.slices_SortFunc Tryz.oa 2 A G j4 (λ_=>rfl) (λx v Q=>by simp only[j4,zX,List.not_mem_nil,or_false]at Q;rcases Q with rfl|rfl<;>rfl) nM ye 264 #[] b 0 s.cap l.toArray w Z (λ_ _ _ _ x y=>y6 x y _) W C (by simp only[vR];omega)
  show Calls _ _ #[.slice s.a s.len s.cap,.func (.func 264) #[] #[]] w _;rw[ha,show s.len=l.toArray.size by simp only[vR];omega];refine z.mono ?_;rintro e V ⟨rfl,d',n,os,S,M,rfl⟩;have g:d'.size=l.length:=by simpa using S.1
  have r:d'.toList.Perm l:=by
   have J:=S.2.2;rw[show l.toArray.size=d'.size by simp[g]]at J;have e1:(d'.extract 0 d'.size)=d':=by simp
   have e2:(l.toArray.extract 0 d'.size)=l.toArray:=by rw[g];simp
   rw[e1,e2]at J;simpa using J
  obtain⟨ty,K⟩:=hb;have m:(sortWorldK j4 2 w b 0 n d' os).heap=(w.heap.modify b (onCells (putCells id 0 (flatK j4 2 d'))))++os:=rfl;have p:(w.heap.modify b (onCells (putCells id 0 (flatK j4 2 d')))).size=w.heap.size:=by simp
  refine⟨⟨rfl,rfl,rfl,by rw[m,Array.size_append,p];omega⟩,[],rfl,?_⟩;rw[m];have B:Ext F w.heap ((w.heap.modify b (onCells (putCells id 0 (flatK j4 2 d'))))++os):=by
   refine⟨by rw[Array.size_append,p];omega,λq hq hf=>?_⟩;rw[uC (by rw[p];exact hq),vW,zB λ(e:b=q)=>hf (by rw[←e];exact hF)]
  refine hR (d'.toList.map rj) _ ?_ ?_ B ⟨?_,.inr ⟨b,(putCells id 0 (flatK j4 2 d') cs.toArray).toList,hF,ha,⟨ty,?_⟩,hle,?_,?_⟩⟩
  ·rw[←u];exact r.map _
  ·rw[sF];rw[lu];intro i j hi hj hij;have D:=M i j O hij (by simp only[uS]at hj;simp only[vR];omega);rw[getElem!_pos d' i (by simpa using hi),getElem!_pos d' j (by simpa using hj)]at D;have D:=vV D;unfold nM at D;simp only[rj,Array.getElem_toList];omega
  ·rw[Kg,zl,uS,g];omega
  ·rw[uC (by rw[p];exact C),vW,zC rfl,K];simp[onCells]
  ·simp[putCells,hcl]
  ·rw[Kg,zl,uS,g];apply zm;intro j;rw[zj];by_cases hj:j<l.length*2
   ·rw[zC hj,B2 d'.toList j (by simpa[g]using hj)];have L:j<cs.length:=by
     have:l.length*2<=s.cap*2:=lq _ O;omega
    simp only[putCells,wG,Array.getElem?_mapIdx,List.getElem?_toArray,cW L,zc];rw[zC ⟨O,by rw[size_flatK,g];omega⟩];simp
   ·rw[zB hj,zT (by rw[Kg,zl,uS,g];omega)]
end Go.Ar
namespace Go.Proofs
open Go.Vc
set_option maxRecDepth 100000
def Xq.h:Hn:=.q .o1 (.q .o2 (.q (.q .o2 .aK) (.q .o7 (.q (.q (.cS (.seq [.op,.op,.op,.cO false 2 [.op,.op]])) .aK) (.q .o7 (.q (.q (.cS (.seq [.op,.op,.op,.cO false 2 [.op,.op],.op,.cO false 3 (RI.ops 3)])) .aK) (.q .o8 (.q (.q (.cS (.seq [.op,.op,.op,.cO false 4 (RI.ops 4),.op,.cO false 4 (RI.ops 4),.op,.cO false 3 (RI.ops 3)])) .aK) (.q .o6 (.q (.cS (.seq [.op,.op,.op,.cO true 2 [.op,.op],.op,.cO true 4 (RI.ops 4),.op,.cO true 4 (RI.ops 4),.op])) .l))))))))))
def Xq.v (a:Hp)(b:aO):Prop:=Xe.c a λc d=>If c.isNone (b false d) (Z3.c c d λe f g=>bR (λh i=>If h (b false i) (WM.c e 0 24 8 i λj k l=>bR (λm n=>bR (λo p=>If o (b false p) (W3.c e j p λq r s=>bR (λt u=>bR (λv w=>bR (λx y=>If x (b false y) (WL.c e 4128 7 y λz aa=>WL.c e 4136 7 aa λab ac=>bR (λad ae=>bR (λaf ag=>bR (λah ai=>b ah ai) λaj=>If af (Xl.c e 0 j ag λak al=>aj (ak==9) al) (aj false ag)) λam=>If ad (Xl.c e 0 j ae λan ao=>am (an==0) ao) (am false ae)) λap=>If (z==0) (ap (ab==7) ac) (ap false ac))) λaq=>If v (aq true w) (Xb.c c 4136 (-4137) w λar au=>aq (ar != 0) au)) λav=>If t (av true u) (Xl.c e 0 j u λaw ax=>av (aw != 10) ax)) λay=>If (r != 0) (ay true s) (aV #[.I 4136] 3 s λaz a0=>XD.c q ⟨some az,1,1⟩ a0 λa1 a2=>ay (!a1) a2))) λa3=>If m (a3 true n) (Xb.c c 4136 5 n λa4 a5=>a3 (a4 != 0) a5)) λa6=>If (j != 4112) (a6 true l) (a6 (k != 0) l))) λa7=>If (f != 0) (a7 true g) (a7 e.isNone g))
theorem Xq.o {a b}(c:Xq.v a b):Xq.c a b:=Wa Tryz.func13 (x:=Xq.h) (R0 c)
def Xe.h:Hn:=.q .o1 (.q .o4 .l)
def Xe.v (a:Hp)(b:Option Addr->Hp->Prop):Prop:=WW.c 8 64 1 1 1024 2 a λc d=>b c d
theorem Xe.o {a b}(c:Xe.v a b):Xe.c a b:=Wa Tryz.func37 (x:=Xe.h) (R0 c)
def WW.h:Hn:=.q .o2 (.q .o8 (.q .o9 (.q (.q .o2 .aK) .aL)))
def WW.v (a b c d e f:Int)(g:Hp)(h:Option Addr->Hp->Prop):Prop:=aV #[.I a,.I b,.I c,.I d,.I e,.I f] 25 g λi j=>aQ i 0 j λk=>XE.c k j λl m n=>bM ((i.add 1).add 0) n λo=>bM ((i.add 1).add 1) n λp=>bM ((i.add 1).add 2) n λq=>bM ((i.add 1).add 3) n λr=>bM ((i.add 1).add 4) n λs=>Q9.c l o p q r s n λt u v=>If (u != 0) (h none v) (h t v)
theorem WW.o {a b c d e f g h}(i:WW.v a b c d e f g h):WW.c a b c d e f g h:=Wa Tryz.func69 (x:=WW.h) (R0 i)
end Go.Proofs
namespace Go.Ar
open Go Go.Vc Go.Proofs
variable {U w w':Hp}{F P Q:Rg}{L:dP}{H H':Hw}{held:List Pc}{s0:Sp}{t n:Nat}{g:Th}
structure iP where
 kd:Int
 th:Int
 a:Int
 b:Int
 of:Int
 pl:Int
 va:Int
 s:ByteArray
def Be (d:iP):List Value:=[.int .i64 d.kd,.int .i64 d.th,.int .i64 d.a,.int .i64 d.b,.int .i64 d.of,.int .i64 d.pl,.int .i64 d.va,.string d.s]
def nu (x:Int):Prop:=-9223372036854775808<=x/\x<=9223372036854775807
structure tX (d:iP):Prop where
 a:nu d.a
 b:nu d.b
 pl:nu d.pl
 va:nu d.va
structure pU (U:Hp) (sl:Sl) (ds:List iP):Prop where
 len:sl.len=ds.length
 at_:∀(i:Nat) (d:iP),ds[i]?=some d->∃b o,sl.a=some ⟨b,o,none⟩/\b<U.size/\∀(j:Nat) v,(Be d)[j]?=some v->cell U ⟨b,o+i*8+j,none⟩=some v
 i:∀d∈ds,tX d
 BG:ds.length<=9223372036854775807
theorem pU.rd {sl:Sl}{ds:List iP}(h:pU U sl ds)(e:bK U w){i:Nat}{d:iP}(hx:ds[i]?=some d){K:Addr->Prop}(hK:∀b o,(∀w',bK U w'->∀(j:Nat) v,(Be d)[j]?=some v->cell w' ⟨b,o+j,none⟩=some v)->K ⟨b,o,none⟩):Ix sl.a sl.len (i:Int) 8 K:=by
 obtain⟨b,o,r,s,m⟩:=h.at_ i d hx;have x:=(cX.1 hx).1;have g:=h.len;rw[r];refine ix O O ?_;rw[add_lit,dC];exact hK b _ λw' u j v p=>by rw[Ka u s id];exact m j v p
theorem FQ {xs:List (Int×Int×Int)}(h:Qe xs=true):(xs.map ZS).map lE=xs:=by
 rw[lV]
 conv=>rhs;rw[←tj xs]
 apply j5;intro t ht;obtain⟨i,g⟩:=zO ht;have:=((Z6 xs).1 h).2.2.1 i t g;obtain⟨c,_,d,b,e,a⟩:=H4 this;simp only[Function.comp,id];rw[show ZS t=c from d];unfold lE;rw[←b,←e,←a]
theorem JV {xs:List (Int×Int×Int)}(h:Qe xs=true):(xs.map ZS).length<=40/\∀c∈xs.map ZS,c.ok:=by
 refine⟨by have:=((Z6 xs).1 h).2.1;simpa using this,λc d=>?_⟩;obtain⟨t,b,rfl⟩:=zF.1 d;obtain⟨i,g⟩:=zO b;have:=((Z6 xs).1 h).2.2.1 i t g;obtain⟨c,a,e,_⟩:=H4 this;rw[show ZS t=c from e];exact a
structure uN (H:Hw) (aF:Int):Prop where
 hi:HI H [] (KZ H.cf.aF)
 cf:lT H
 pg:(H.cf.aF:Int)=aF
 live:H.live=[]
 ph:∀g∈H.bQ,g.ph=none
theorem N2 {xs:List (Int×Int×Int)}{p a t b r:Int}(h:Qe xs=true)(hc:p8 p a t b r=true):uN (VG (xs.map ZS) ⟨p.toNat,a.toNat,t.toNat,b.toNat,r.toNat⟩) p:=by
 obtain⟨⟨x,j,y⟩,⟨u,s⟩,⟨w,m⟩,_⟩:=(D3 p a t b r).1 hc;obtain⟨e,d⟩:=JV h;refine⟨I8 (cf:=⟨p.toNat,a.toNat,t.toNat,b.toNat,r.toNat⟩) aC aC aC aC e d,⟨by simp only[VG];omega,by simp[VG],?_⟩,by simp only[VG];omega,rfl,λg i=>by rw[yg i]⟩;show Qe ((xs.map ZS).map lE)=true;rw[FQ h];exact h
def Safe (H:Hw)(d:iP)(x:Int)(e:Int×Bk):Prop:=(∀j,fL H j≠some (.find e.1))/\¬((d.kd=3\/d.kd=1\/d.kd=6)/\e.1<=x/\x<e.1+e.2.2.1)
structure nY (H:Hw) (d:iP) (x:Int) (H':Hw):Prop where
 hi:∃held s0,HI H' held s0
 kp:QA H' H
 fx:∀e∈H.live,Safe H d x e->e∈H'.live/\(∀w:Nat,e.1<=((8*w:Nat):Int)->((8*w:Nat):Int)<e.1+e.2.2.1->H'.sp.wd w=H.sp.wd w)/\∀j,fL H' j≠some (.find e.1)
theorem nY.op (h:HI H held s0){d:iP}{x:Int}(o:ie H H')(hl:∀e∈H.live,Safe H d x e->e∈H'.live):nY H d x H':=
 ⟨o.hi,o.kp,λe a b=>⟨hl e a b,h.kl o.ks e a,λj=>by rw[o.ph];exact b.1 j⟩⟩
theorem nY.ar {d:iP}{x:Int}(o:lX H H'):nY H d x H':=
 ⟨o.hi,o.kp,λe a b=>⟨by rw[o.live];exact a,o.kl e a,λj=>by unfold fL;rw[o.bQ];exact b.1 j⟩⟩
theorem HI.np (h:HI H held s0){e:Int×Bk}(he:e∈H.live):8<=e.2.2.1/\0<=e.1/\e.1%8=0/\e.2.2.1%8=0/\e.1+e.2.2.1<=270000:=by
 obtain⟨_,p,d,F,E,C,K,_⟩:=h.lv e he;have D:=h.vM.size_pos d;have z:=h.vM.jr d;obtain⟨A,x,hd⟩:=h.vM.hf p d;have J:p.addr%8=0:=by
  rcases hd with⟨_,_,r,hr,c2,c3⟩|⟨j,c,c1,c2,c3,c4,_⟩
  ·omega
  ·obtain⟨a,w,b,u⟩:=c4;have:a=c:=Option.some.inj (b.1.symm.trans c2);subst this;have m:=(h.vM.ga _ A x).cD j a w b;obtain⟨l,s,i,B,G,e,_⟩:=(VC m).1 u;have g:=m.ok;unfold bZ.ok at g;unfold at_ at e;have y:a.size=8*(a.size/8):=by omega
   have:i*a.size=8*(i*(a.size/8)):=by rw[Nat.mul_left_comm,←y]
   omega
 omega
theorem nY.write (h:HI H held s0){d:iP}{x:Int}(hd:d.kd=3)(v:Int):nY H d x {H with sp:=ZL H.sp x v}:=by
 refine⟨⟨_,_,h.write x v⟩,⟨rfl,rfl,rfl,rfl⟩,λe a b=>⟨a,λw g m=>?_,b.1⟩⟩;have i:=h.np a;rw[(Bg H.sp x v).2.2,zB];rintro⟨h0,hw⟩;have j:=Dd h0;exact b.2 ⟨.inl hd,O,O⟩
theorem nY.free (h:HI H held s0){d:iP}{x thread e:Int}(hd:d.kd=1)(o:ie H H')(hf:rQ H thread x H' e):nY H d x H':=by
 refine nY.op h o λj a g=>?_;have m:=h.np a;rcases hf with⟨_,h2,_⟩|⟨_,_,_,h4⟩|⟨_,b,_,_,h4⟩
 ·rw[h2];exact a
 ·rw[h4];exact a
 ·rw[h4];refine HN.2 ⟨a,λi=>g.2 ⟨.inr (.inl hd),O,O⟩⟩
theorem nY.step (h:HI H held s0){d:iP}{x:Int}(hg:H.bQ[t]?=some g){p:Ph}(hp:g.ph=some p):nY H d x (Qj H t p):=by
 have G:=(cX.1 hg).1;have s:=h.EI hg hp;have z:fL H t=some p:=by unfold fL;rw[hg];exact hp
 have live:∀e∈H.live,p≠.find e.1->e∈(Qj H t p).live:=λe i A=>by
  by_cases hf:kH p
  ·obtain⟨_,_,_,J,m⟩:=pJ h hg hp hf;by_cases u:∃y,p=.find y
   ·obtain⟨y,rfl⟩:=u;cases hm:bY H.live y with
    | none=>rw[((m y rfl).1 hm).2.2];exact i
    | some b=>
     rw[((m y rfl).2 b hm).2];exact HN.2 ⟨i,λa=>A (by rw[a])⟩
   ·rw[(J λy a=>u ⟨y,a⟩).2];exact i
  ·obtain⟨cl,K,E⟩:=xu h hg hp hf;obtain⟨_,r⟩:=oY h hg hp E;rcases r with⟨_,_,_,e2,_⟩|⟨_,_,_,e4⟩|⟨_,_,e3,e4⟩
   ·rw[e2];exact i
   ·rw[e4];exact i
   ·rw[e4];exact(HV e3).2 (.inl i)
 have B:∀y,(Wt H t p).2.1≠some (.find y):=λy a=>by
  by_cases hf:kH p
  ·obtain⟨_,_,r,_⟩:=pJ h hg hp hf;rcases r with⟨p',w,e1,_,e3,_⟩|e1
   ·rw[e1]at a;exact e3 y (Option.some.inj a)
   ·rw[e1]at a;cases a
  ·obtain⟨cl,K,E⟩:=xu h hg hp hf;obtain⟨_,r⟩:=oY h hg hp E;rcases r with⟨p',w,e1,_,_,e4,_⟩|⟨e1,_⟩|⟨e1,_⟩
   ·rw[e1]at a;cases a;exact e4.elim
   ·rw[e1]at a;cases a
   ·rw[e1]at a;cases a
 refine⟨s.hi,V9 H t p,λe i F=>⟨live e i λu=>F.1 t (by rw[z,u]),h.kl s.ks e i,λj=>?_⟩⟩;by_cases hj:j=t
 ·subst hj;obtain⟨w,C,D⟩:=UC (p:=p) G;unfold fL;rw[C];show w.ph≠_;rw[D];exact B _
 ·unfold fL;rw[VS p hj];exact F.1 j
end Go.Ar
namespace Go.Ar
open Go Go.Vc Go.Proofs
variable {U w w':Hp}{F P Q X:Rg}{L:dP}{H H':Hw}{held:List Pc}{s0:Sp}{t n:Nat}{g:Th}
structure gO (σ0 U:Hp) (L:dP) (H:Hw) (held:List Pc) (s0:Sp) (P Q:Rg) (addrs:Sl) (ad:List Int):Prop where
 e:bK σ0 U
 h:HH U P L H
 hi:HI H held s0
 cf:lT H
 pg:H.cf.aF<=128
 pP:∀b,P b->σ0.size<=b/\b<U.size
 pQ:∀b,Q b->σ0.size<=b/\b<U.size/\¬P b
 row:bW addrs 1 (Wx ad) U Q
 al:ad.length<=60
 g0:iC (λb=>σ0.size<=b)/\¬σ0.size<=1
variable {σ0:Hp}{addrs:Sl}{ad:List Int}
theorem gO.step (p:gO σ0 U L H held s0 P Q addrs ad){ts':List eC}(e:Ext P U w)(h':HH w (Grow P U) {L with ts:=ts'} H'){held':List Pc}{s0':Sp}(hi':HI H' held' s0')(k:QA H' H) :
 gO σ0 w {L with ts:=ts'} H' held' s0' (Cut (Grow P U) w) Q addrs ad:=by
 have s:=e.1;refine⟨Ext.dS p.e e λb a=>.inr (p.pP b a).1,h'.cut,hi',p.cf.bS k,by rw[k.2.1];exact p.pg,λb a=>⟨?_,a.2⟩,λb a=>?_,aI.bS p.row e λb _ i d=>(p.pQ b i).2.2 d,p.al,p.g0⟩
 ·have:=p.e.1;rcases a.1 with h1|h1
  ·exact(p.pP b h1).1
  ·omega
 ·obtain⟨j,r,m⟩:=p.pQ b a;exact⟨j,O,λg=>by
   rcases g.1 with h1|h1
   ·exact m h1
   ·omega⟩
theorem gO.out (p:gO σ0 U L H held s0 P Q addrs ad){T:Rg}(e:Ext T U w)(hT:∀b,b<U.size->T b->¬P b/\¬Q b/\σ0.size<=b):gO σ0 w L H held s0 P Q addrs ad:=by
 have r:=e.1;have g:Ext (λb=>T b/\b<U.size) U w:=⟨e.1,λb a m=>e.2 b a λd=>m ⟨d,a⟩⟩;refine⟨Ext.dS p.e g λb a=>.inr (hT b a.2 a.1).2.2,p.h.bS g (λb a i d=>(hT b a d.1).1 i) (λb a=>?_) (λa=>?_),p.hi,p.cf,p.pg,λb a=>⟨(p.pP b a).1,by have:=(p.pP b a).2;omega⟩,λb a=>⟨(p.pQ b a).1,by have:=(p.pQ b a).2.1;omega,(p.pQ b a).2.2⟩,aI.bS p.row g λb a j d=>(hT b a d.1).2.1 j,p.al,p.g0⟩
 ·exact p.g0.1 b (hT b a.2 a.1).2.2
 ·exact p.g0.2 (hT _ a.2 a.1).2.2
theorem OY (hr:bW addrs 1 (Wx ad) U Q)(hl:ad.length<=1000000)(x:Int){e t:Nat}{K:Sl->Hp->Prop}(hK:∀s' w,Ext Q U w->bW s' 1 (Wx (ad++[x])) w (λb=>Q b\/U.size<=b/\b<w.size)->K s' w) :
 Nw (.cells #[.int .i64 x] t (0,0)) U λn v=>App addrs 1 8 e [.int .i64 0] ⟨some n,1,1⟩ v K:=by
 have i:addrs.len=ad.length:=by have:=hr.1;simp[Wx]at this;omega
 refine bW.push (F:=λb=>Q b\/U.size<=b) (vs:=[.int .i64 x]) (aI.mono hr λb _ a=>.inl a) (λb a=>.inr a) rfl rfl (by simp[dV]) O O λs' w j g m=>hK s' w ⟨g.1,λb a p=>g.2 b a λd=>d.elim p λd=>O⟩ ?_;have:Wx (ad++[x])=Wx ad++[.int .i64 x]:=by simp[Wx]
 rw[this];refine aI.mono (aI.cut m) λb a d=>?_;rcases d.1 with h1|h1
 ·exact .inl h1
 ·exact .inr ⟨h1,a⟩
end Go.Ar
namespace Go.Ar
open Go.Vc (bY dG di)
def i63 (x:Int):Bool:=decide (x<=9223372036854775807)
def oL (H:Hw)(t:Nat):Ph->Bool
 | .take k=>decide (k<H.tb.length)&&(match QP (H.cls k) ((H.jJ t).li k)with
  | (some y,_)=>i63 y
  | (none,_)=>true)
 | .cH k _=>decide (k<H.tb.length)&&(ZP (H.dZ t) (k:Int) != 0 || !(Yg (H.dZ t) (k:Int)).isEmpty)
 | .cI _ _=>true
 | .grow _ _=>true
 | .fill=>match (H.jJ t).bP with
  | (k,x::xs)::_=>decide (k<H.tb.length)&&(i63 x&&decide (((H.jJ t).li k).os.length+xs.length<=256))
  | _=>false
 | .eB m=>decide (ZO (H.dZ t) H.sp (m:Int) 1<=1000000)
 | .find x=>i63 x&&((bY H.live x).isSome&&decide (0<=x))
 | .put k _=>decide (k<H.tb.length) && !(H.jJ t).bP.isEmpty
 | .back=>match (H.jJ t).bP with
  | (_,xs)::_=>(xs.all λx=>i63 x&&decide (0<=Yf H.bV x))&&decide (xs.length<=1000000)
  | _=>false
 | .dA _ a=>decide (0<=a)&&(decide (a.toNat<H.bV.length)&&H.bV.all λA=>A.runs.all λr=>decide (r.1<=1000000))
 | .drain=>true
theorem vq {x:Int}(h:i63 x=true):iu x:=by
 unfold i63 at h;unfold iu;exact su h
theorem N5 {H:Hw}{t:Nat}{p:Ph}(h:oL H t p=true):sX H t p:=by
 cases p with
 | take k=>
  simp only[oL,zE,zS]at h;refine⟨h.1,λy l j=>?_⟩;have e:=h.2;rw[j]at e;exact vq e
 | cH k w=>
  simp only[oL,zE,zS,mP]at h;refine⟨h.1,λi d=>?_⟩;rw[i,d]at h;simp at h
 | cI k w=>trivial
 | grow k w=>trivial
 | fill=>
  simp only[oL]at h;split at h
  ·rename_i k x xs r hh;simp only[zE,zS]at h;exact⟨k,x,xs,r,hh,h.1,vq h.2.1,h.2.2⟩
  ·cases h
 | eB m=>
  simp only[oL,zS]at h;exact h
 | find x=>
  simp only[oL,zE,zS]at h;exact⟨vq h.1,λu=>by rw[u]at h;simp at h,λb _=>h.2.2⟩
 | put k x=>
  simp only[oL,zE,zS]at h;exact⟨h.1,λd=>by rw[d]at h;simp at h⟩
 | back=>
  simp only[oL]at h;split at h
  ·rename_i k xs r hh;simp only[zE,zS,zr]at h;exact⟨k,xs,r,hh,λx g=>⟨vq (h.1 x g).1,(h.1 x g).2⟩,h.2⟩
  ·cases h
 | dA s a=>
  simp only[oL,zE,zS,zr]at h;exact⟨h.1,h.2.1,h.2.2⟩
 | drain=>trivial
def nW:Nat->Hw->Nat->Ph->Option (Hw×Int×Int)
 | 0,_,_,_=>none
 | n+1,H,t,p=>if oL H t p&&decide ((H.jJ t).bP.length<=900)then(match (Wt H t p).2.1 with
  | none=>some (Qj H t p,(Wt H t p).2.2.1,(Wt H t p).2.2.2)
  | some p'=>nW n (Qj H t p) t p')else none
theorem CQ:∀{n:Nat} {H:Hw} {t:Nat} {p:Ph} {r:Hw×Int×Int},nW n H t p=some r->∃m,il m H t p r.1 r.2.1 r.2.2
 | 0,_,_,_,_,h=>by simp[nW]at h
 | n+1,H,t,p,r,h=>by
  rw[nW]at h;split at h
  ·rename_i hc;simp only[zE,zS]at hc;have hok:sP H t p:=⟨N5 hc.1,λg a=>by rw[←Hv a];exact hc.2⟩;split at h
   ·rename_i hn;cases h;exact⟨1,.done hok hn⟩
   ·rename_i p' hs;obtain⟨m,b⟩:=CQ h;exact⟨m+1,.next hok hs b⟩
  ·cases h
def vD (H:Hw)(thread kind size align addr:Int):Option (Hw×Int×Int):=match Kq H thread kind size align addr with
 | .inl e=>if e=0 then none else some (H,0,e)
 | .inr (t,p)=>nW 40 (eL H t (some p)) t p
theorem Pr {H:Hw}{thread kind size align addr:Int}{r:Hw×Int×Int}(h:vD H thread kind size align addr=some r):Hk H thread kind size align addr r.1 r.2.1 r.2.2:=by
 unfold vD at h;split at h
 ·rename_i e he;split at h
  ·cases h
  ·rename_i hne;cases h;exact .inl ⟨he,hne,rfl,rfl⟩
 ·rename_i t p he;obtain⟨m,a⟩:=CQ h;exact .inr ⟨t,p,m,he,a⟩
def DO:List bZ:=(qA 8).map ZS
def w0:Hw:=VG DO ⟨64,1,1,1024,2⟩
theorem uv:VG ((qA 8).map ZS) ⟨(64:Int).toNat,(1:Int).toNat,(1:Int).toNat,(1024:Int).toNat,(2:Int).toNat⟩=w0:=rfl
end Go.Ar
namespace Go.Ar
open Go Go.Vc Go.Proofs
variable {U u u':Hp}{F:Rg}{L:dP}{H H':Hw}{N:Nat}
attribute [local irreducible] w0 DO
theorem Eh (g:Gl U)(gd:Gd U){R:Option Addr->Hp->Prop}(hR:∀σ' L N,bK U σ'->U.size<=N->N<=σ'.size->HH σ' (λb=>N<=b) L w0->R (some ⟨L.p,0,none⟩) σ'):Xe.c U R:=by
 refine Xe.o ?_;unfold Xe.v;refine WW.o ?_;unfold WW.v;refine nw (cs:=[.int .i64 8,.int .i64 64,.int .i64 1,.int .i64 1,.int .i64 1024,.int .i64 2]) λv y e j=>j.rI rfl ?_;refine IS 8 aB aB λs r e1 w=>?_;have a:=e1.bU j id;have d:=e.trans e1;refine a.fR rfl (a.fR rfl (a.fR rfl (a.fR rfl (a.fR rfl ?_))));refine NF w (g.bO d) (gd.bO d) 64 1 1 1024 2 (λi=>?_) (λ_ u=>?_) λ_ _ x L e2 m=>?_
 ·have:=Ca 8 aB aB;rw[show((8:Nat):Int)=8 from rfl]at this;rw[this]at i;cases i
 ·exact absurd u aB
 ·rw[uv]at m;exact cE rfl (hR x L r.size (d.trans e2) d.1 e2.1 m)
end Go.Ar
namespace Go.Proofs
open Go.Vc
set_option maxRecDepth 100000
def WM.h:TX:=.nx (.o 3) (.nx (.seq (.o 3) (.cond (.seq (.o 2) (.leaf)) (.leaf))) (.nx (.seq (.cS (.seq [.op,.op,.op,.cO false 2 [.op,.op],.op,.cO false 2 [.op,.op],.op,.cO false 2 [.op,.op],.op,.cO false 5 [.op,.op,.op,.op,.op]])) (.cond (.seq (.o 2) (.leaf)) (.leaf))) (.nx (.o 3) (.nx (.o 5) (.nx (.cS (.held true [] (.take 0 (.take 1 (.take 2 (.take 3 (.take 4 (.take 5 (.take 6 (.take 10 (.all [(7,.take 8 (.take 9 (.all [(11,.take 12 (.take 13 (.take 14 (.take 15 (.take 16 (.done))))))])))]))))))))))) (.nx (.seq (.o 2) (.cond (.seq (.o 3) (.leaf)) (.leaf))) (.nx (.o 8) (.nx (.o 16) (.nx (.o 12) (.r1 (.o 2) bN (.block (.cS (.held true [] (.take 0 (.take 1 (.take 2 (.take 3 (.take 4 (.take 5 (.all [(6,.all [(7,.done)])])))))))))) (.seq (.o 3) (.seq (.cS (.held true [8] (.take 0 (.take 1 (.take 2 (.take 3 (.take 4 (.take 5 (.take 6 (.take 7 (.all [(8,.done)]))))))))))) (.seq (.o 5) (.leaf))))))))))))))
def WM.v (a:R2)(b c d:Int)(e:Hp)(f:Int->Int->Hp->Prop):Prop:=aV #[.pointer a] 33 e λg h=>fQ g h λi=>Ws.c i h λj k=>If (!j) (f 0 5 k) (bR (λl m=>bR (λn o=>bR (λp q=>bR (λr s=>If r (f 0 1 s) (aV #[.I 0,.I 0,.I 0,.I 0,.I 0] 95 s λt u=>aR t 0 (.I 0) u λv=>aR t 1 (.I c) v λw=>aR t 2 (.I 0) w λx=>aR t 3 (.I 0) x λy=>aR t 4 (.I 0) y λz=>eN z λaa=>fV aa .p g λ(ab:R2)=>bT ab λac=>aU aa ac 0 λad=>aS aa t 0 λae=>aS aa t 1 λaf=>aS aa t 2 λag=>aS aa t 3 λah=>aS aa t 4 λai=>Xi.c ae af ag ah ai z λaj ak=>And (aa ak) <| bL ((if 16>d then 16 else d)+aj) λal=>bL (al+16) λam=>Yu.c ad b am (if 16>d then 16 else d) ak λan ao ap=>And (aa ap) <| If (ao != 0) (f 0 ao ap) (fQ g ap λaq=>bD aq 3 ap λau=>bL (au+1) λav=>bT aq λaw=>aR aw 3 (.I av) ap λax=>fQ g ax λay=>bD ay 3 ax λa0=>bL (an+(if 16>d then 16 else d)) λa1=>aR t 4 (.I a0) ax λa2=>eP ((t.add 0).add 2) (.I an) a2 λa3=>eP ((t.add 0).add 0) (.I a1) a3 λa4=>fQ g a4 λa5=>bF a5 0 a4 λa7=>Xs.c a7 an a4 λa8 a9 ba=>eP ((t.add 0).add 3) (.I a8) ba λbb=>aQ t 0 bb λbc=>aQ t 1 bb λbd=>aQ t 2 bb λbe=>aQ t 3 bb λbf=>aQ t 4 bb λbg=>
 XC.c bc bd be bf bg bb λbh bi=>Az Tryz.prog (e1 bN) bh bi (λ(bj:Int) bk bl=>eN bl λbm=>fV bm .p g λ(bn:Option Addr)=>bT bn λbo=>aU bm bo 0 λbp=>Zs.c bj bl λbq br=>And (bm br) <| Xb.c bp bj bq br λbs bt=>And (bm bt) <| bk bt) λbu=>fQ g bu λbv=>aQ t 0 bu λbw=>aQ t 1 bu λbx=>aQ t 2 bu λbz=>aQ t 3 bu λb0=>aQ t 4 bu λb1=>XT.c bv bw bx bz b0 b1 0 bu λb2=>eN b2 λb3=>fV b3 .p g λ(b4:Option Addr)=>bT b4 λb5=>fV b3 .m (b5.add 1) λ(b6:Option Nat)=>fV b3 bN ((t.add 0).add 0) λ(b7:Int)=>aS b3 t 0 λb8=>aS b3 t 1 λb9=>aS b3 t 2 λca=>aS b3 t 3 λcb=>aS b3 t 4 λcc=>j2 .i64 (.ag 5) b6 b7 (b8,b9,ca,cb,cc) b2 λcd=>bM ((t.add 0).add 0) cd λce=>sT bi.size cd λcf=>f ce 0 cf))) λcg=>If p (cg true q) (bL (d-1) λch=>cg ((bits .and .i64 d ch) != 0) q)) λci=>If n (ci true o) (ci (decide (d>256)) o)) λcj=>If l (cj true m) (cj (decide (d<1)) m)) λck=>If (c<1) (ck true k) (ck (decide (c>1024)) k))
theorem WM.o {a b c d e f}(g:WM.v a b c d e f):WM.c a b c d e f:=Br Tryz.func14 (x:=WM.h) (R0 g)
def YY.h:Hn:=.q .o2 (.q (.q .o4 (.q .o2 (.c (.q .o3 .l) .l))) (.q .gG .l))
def YY.v (a:R2)(b:Int)(c:Hp)(d:Int->Int->Hp->Prop):Prop:=W7.c a b c λe f=>If (e != 0) (d 0 e f) (bF a 0 f λh=>Yz.c h b f λi j k=>d i j k)
theorem YY.o {a b c d}(e:YY.v a b c d):YY.c a b c d:=Wa Tryz.func16 (x:=YY.h) (R0 e)
def WL.h:Hn:=.q .o1 (.q (.q .o4 (.q .o2 .aJ)) (.q .o8 .l))
def WL.v (a:R2)(b c:Int)(d:Hp)(e:aN):Prop:=W7.c a b d λf g=>If (f != 0) (e f g) (bF a 0 g λi=>Xb.c i b c g λj k=>e j k)
theorem WL.o {a b c d e}(f:WL.v a b c d e):WL.c a b c d e:=Wa Tryz.func17 (x:=WL.h) (R0 f)
def YZ.h:Hn:=.q .o1 (.q (.q .o3 .aK) (.q .o1 (.q (.q .o8 (.k (.loop [(3,.one .s),(16,.I)] (.q .o1 (.q (.c .l .l) (.q (.k (.q .o3 (.o 11))) .o2)))))) .aL)))
def YZ.v (a:R2)(b:Hp)(c:Sl->Hp->Prop):Prop:=Ws.c a b λd e=>If (!d) (c ⟨none,0,0⟩ e) (bI a 1 e λg=>Z4.c g e λh i=>UO.c h i λj k=>YC [.s,bN] (λl=>l ⟨none,0,0⟩ 0 k) λm (n:Sl) (o:Int) p=>If (o<((j.len:Nat):Int)) (Ix j.a j.len o 1 λq=>bM q p λr=>bT a λs=>bB s 1 p λt=>Lk .i64 (.ag 5) t r p λu=>aV #[.I ((u.getD (0,0,0,0,0)).1),.I ((u.getD (0,0,0,0,0)).2.1),.I ((u.getD (0,0,0,0,0)).2.2.1),.I ((u.getD (0,0,0,0,0)).2.2.2.1)] 52 p λv w=>App n 4 32 52 [.I 0,.I 0,.I 0,.I 0] ⟨some v,1,1⟩ w λx y=>bL (o+1) λz=>m x z y) (c n p))
theorem YZ.o {a b c}(d:YZ.v a b c):YZ.c a b c:=Wa Tryz.func20 (x:=YZ.h) (R0 d)
def W3.h:Hn:=.q .o2 (.q (.q .o3 .aJ) (.q (.o 12) (.q (.q .o2 .aJ) (.q (.q .o3 .aJ) (.q .o5 .l)))))
def W3.v (a:R2)(b:Int)(c:Hp)(d:Sl->Int->Hp->Prop):Prop:=Ws.c a c λe f=>If (!e) (d ⟨none,0,0⟩ 5 f) (bI a 1 f λh=>Lk .i64 (.ag 5) h b f λi=>aV #[.I 0,.I 0,.I 0,.I 0,.I 0] 95 f λj k=>aR j 0 (.I ((i.getD (0,0,0,0,0)).1)) k λl=>aR j 1 (.I ((i.getD (0,0,0,0,0)).2.1)) l λm=>aR j 2 (.I ((i.getD (0,0,0,0,0)).2.2.1)) m λn=>aR j 3 (.I ((i.getD (0,0,0,0,0)).2.2.2.1)) n λo=>aR j 4 (.I ((i.getD (0,0,0,0,0)).2.2.2.2)) o λp=>If (!i.isSome) (d ⟨none,0,0⟩ 8 p) (aQ j 0 p λq=>aQ j 1 p λr=>aQ j 2 p λs=>aQ j 3 p λt=>aQ j 4 p λu=>W8.c a q r s t u p λv w=>If v (d ⟨none,0,0⟩ 5 w) (aQ j 0 w λx=>aQ j 1 w λy=>aQ j 2 w λz=>aQ j 3 w λaa=>aQ j 4 w λab=>W5.c a x y z aa ab w λac ad=>d ac 0 ad)))
theorem W3.o {a b c d}(e:W3.v a b c d):W3.c a b c d:=Wa Tryz.func21 (x:=W3.h) (R0 e)
def YE.h:Hn:=.q .o1 (.q (.q .o3 .aK) (.q .o1 (.q (.q .o5 (.k (.loop [(3,.one .s)] (.q (.cS (.seq [.it .i64 (.ag 5),.op])) (.q (.c .l .l) (.k (.q (.cS (.seq [.it .i64 (.ag 5),.op,.op,.op])) (.q .o4 (.c .o6 .l))))))))) (.q .o2 (.q .o3 .l)))))
def YE.v (a:R2)(b:Hp)(c:Sl->Hp->Prop):Prop:=Ws.c a b λd e=>If (!d) (c ⟨none,0,0⟩ e) (bI a 1 e λg=>mW .i64 (.ag 5) g e λh i=>YC [.s] (λj=>j ⟨none,0,0⟩ i) λk (l:Sl) m=>mV .i64 (.ag 5) h m (Ug.c l m λn=>VD.c l n λo p=>c o p) (λq r s=>mT .i64 (.ag 5) h s λt u=>aV #[.I 0,.I 0,.I 0,.I 0,.I 0] 95 s λv w=>aR v 0 (.I u.1) w λx=>aR v 1 (.I u.2.1) x λy=>aR v 2 (.I u.2.2.1) y λz=>aR v 3 (.I u.2.2.2.1) z λaa=>aR v 4 (.I u.2.2.2.2) aa λab=>aQ v 0 ab λac=>aQ v 1 ab λad=>aQ v 2 ab λae=>aQ v 3 ab λaf=>aQ v 4 ab λag=>W8.c a ac ad ae af ag ab λah ai=>If (!ah) (aQ v 0 ai λaj=>aQ v 1 ai λak=>aQ v 2 ai λal=>aQ v 3 ai λam=>aQ v 4 ai λan=>W5.c a aj ak al am an ai λao ap=>App l 1 8 3 [.I 0] ao ap λaq ar=>k aq ar) (k l ai)))
theorem YE.o {a b c}(d:YE.v a b c):YE.c a b c:=Wa Tryz.func22 (x:=YE.h) (R0 d)
def Y1.h:Hn:=.q .o2 (.q (.q .o3 (.c (.q .o3 .l) .l)) (.q .o9 (.q (.q .o2 (.c (.q .o3 .l) .l)) (.q .o4 .l))))
def Y1.v (a:R2)(b:Int)(c:Hp)(d:Int->Int->Int->Int->Int->Hp->Prop):Prop:=aV #[.I 0,.I 0,.I 0,.I 0] 52 c λe f=>Ws.c a f λg h=>If (!g) (aR e 0 (.I 0) h λi=>aR e 1 (.I 0) i λj=>aR e 2 (.I 0) j λk=>aR e 3 (.I 0) k λl=>aQ e 0 l λm=>aQ e 1 l λn=>aQ e 2 l λo=>aQ e 3 l λp=>d m n o p 5 l) (YL.c a b ⟨57,#[],#[]⟩ h λq r s t u v w=>aV #[.I 0,.I 0,.I 0,.I 0,.I 0] 95 w λx y=>aR x 0 (.I q) y λz=>aR x 1 (.I r) z λaa=>aR x 2 (.I s) aa λab=>aR x 3 (.I t) ab λac=>aR x 4 (.I u) ac λad=>If (!v) (aR e 0 (.I 0) ad λae=>aR e 1 (.I 0) ae λaf=>aR e 2 (.I 0) af λag=>aR e 3 (.I 0) ag λah=>aQ e 0 ah λai=>aQ e 1 ah λaj=>aQ e 2 ah λak=>aQ e 3 ah λal=>d ai aj ak al 8 ah) (bM ((x.add 0).add 0) ad λam=>bM ((x.add 0).add 1) ad λan=>bM ((x.add 0).add 2) ad λao=>bM ((x.add 0).add 3) ad λap=>aR e 0 (.I am) ad λaq=>aR e 1 (.I an) aq λar=>aR e 2 (.I ao) ar λau=>aR e 3 (.I ap) au λav=>aQ e 0 av λaw=>aQ e 1 av λax=>aQ e 2 av λay=>aQ e 3 av λaz=>d aw ax ay az 0 av))
theorem Y1.o {a b c d}(e:Y1.v a b c d):Y1.c a b c d:=Wa Tryz.func23 (x:=Y1.h) (R0 e)
def YX.h:Hn:=.q .o1 (.q (.q .o3 .aK) (.q .o5 .l))
def YX.v (a:R2)(b:Hp)(c:Option Addr->Hp->Prop):Prop:=Ws.c a b λd e=>If (!d) (c none e) (bF a 0 e λg=>c g e)
theorem YX.o {a b c}(d:YX.v a b c):YX.c a b c:=Wa Tryz.func24 (x:=YX.h) (R0 d)
def Xl.h:Hn:=.q .o1 (.q .o5 .l)
def Xl.v (a:R2)(b c:Int)(d:Hp)(e:aN):Prop:=WS.c a b c true d λf g=>e f g
theorem Xl.o {a b c d e}(f:Xl.v a b c d e):Xl.c a b c d e:=Wa Tryz.func29 (x:=Xl.h) (R0 f)
def Z3.h:Hn:=.q .o2 (.q (.q .o3 .aJ) (.q .o7 .l))
def Z3.v (a:R2)(b:Hp)(c:Option Addr->Int->Hp->Prop):Prop:=Zw.c a b λd e=>If (!d) (c none 1 e) (Nw (.map #[] 0) e λf g=>Nw (.map #[] 0) g λh i=>aV #[.pointer a,.map (some f.block),.map (some h.block),.I 0] 74 i λj k=>c (some j) 0 k)
theorem Z3.o {a b c}(d:Z3.v a b c):Z3.c a b c:=Wa Tryz.func33 (x:=Z3.h) (R0 d)
def YF.h:Hn:=.q .o1 (.q .o5 .l)
def YF.v (a:R2)(b c:Int)(d:Hp)(e:aN):Prop:=WS.c a b c false d λf g=>e f g
theorem YF.o {a b c d e}(f:YF.v a b c d e):YF.c a b c d e:=Wa Tryz.func34 (x:=YF.h) (R0 f)
def YD.h:Hn:=.q .o1 (.q (.q .o3 .aK) (.q .o8 .l))
def YD.v (a:R2)(b:Hp)(c:Option Addr->Hp->Prop):Prop:=Ws.c a b λd e=>If (!d) (c none e) (bF a 0 e λg=>H6.c g e λh i=>Y8.c a h i λj k=>c j k)
theorem YD.o {a b c}(d:YD.v a b c):YD.c a b c:=Wa Tryz.func35 (x:=YD.h) (R0 d)
def Y8.h:Hn:=.q .o1 (.q (.q (.cS (.seq [.op,.op,.op,.op,.cO false 3 (RI.ops 3)])) .aK) (.q (.cS (.held true [] (.tk [0,1,2,3,4,6,7,8,9,11,12,13,14] (.all [(5,.all [(10,.take 15 (.all [(16,.take 17 (.done))]))])])))) .l))
def Y8.v (a b:R2)(c:Hp)(d:Option Addr->Hp->Prop):Prop:=Ws.c a c λe f=>bR (λg h=>If g (d none h) (eN h λi=>bT a λj=>fV i .m (j.add 1) λ(k:Option Nat)=>bT a λl=>fV i .m (l.add 2) λ(m:Option Nat)=>bT a λn=>aS i n 3 λo=>Z0.c k h λp q=>And (i q) <| Q0.c m q λr s=>And (i s) <| aV #[.pointer b,.map p,.map r,.I o] 74 s λt u=>And (i u) <| d (some t) u)) λv=>If (!e) (v true f) (Zw.c b f λw x=>v (!w) x)
theorem Y8.o {a b c d}(e:Y8.v a b c d):Y8.c a b c d:=Wa Tryz.func36 (x:=Y8.h) (R0 e)
def Ws.h:Hn:=.q .o1 (.q (.cS (.seq [.op,.op,.op,.cO true 5 (RI.ops 5),.op])) .l)
def Ws.v (a:R2)(b:Hp)(c:aO):Prop:=bR (λd e=>c d e) λf=>If (!a.isNone) (bF a 0 b λh=>f (!h.isNone) b) (f false b)
theorem Ws.o {a b c}(d:Ws.v a b c):Ws.c a b c:=Wa Tryz.func42 (x:=Ws.h) (R0 d)
def Xi.h:Hn:=.q .o2 (.q .o8 .l)
def Xi.v (a b c d e:Int)(f:Hp)(g:aN):Prop:=aV #[.I a,.I b,.I c,.I d,.I e] 95 f λh i=>bM ((h.add 0).add 1) i λj=>bL (j+8) λk=>bL (k-1) λl=>Nz 8<|bL (l.tdiv 8) λm=>bL (m*8) λn=>g n i
theorem Xi.o {a b c d e f g}(h:Xi.v a b c d e f g):Xi.c a b c d e f g:=Wa Tryz.func44 (x:=Xi.h) (R0 h)
def XC.h:Hn:=.q .o2 .aL
def XC.v (a b c d e:Int)(f:Hp)(g:Fv->Hp->Prop):Prop:=aV #[.I a,.I b,.I c,.I d,.I e] 95 f λh i=>g ⟨82,#[],#[.pointer (some h)]⟩ i
theorem XC.o {a b c d e f g}(h:XC.v a b c d e f g):XC.c a b c d e f g:=Wa Tryz.func45 (x:=XC.h) (R0 h)
def Zs.h:Hn:=.q .o1 (.q .o4 .l)
def Zs.v (a:Int)(b:Hp)(c:aN):Prop:=bL (0-a) λd=>bL (d-1) λe=>c e b
theorem Zs.o {a b c}(d:Zs.v a b c):Zs.c a b c:=Wa Tryz.func46 (x:=Zs.h) (R0 d)
def XT.h:Hn:=.q .o1 (.q .o1 (.k (.loop [(6,.I)] (.q (.q .o4 (.c .l .l)) (.q (.k (.cS (.tail 10 (RI.ops 10) [.op]))) .o3)))))
def XT.v (a:R2)(b c d e f g:Int)(h:Hp)(i:aP):Prop:=aV #[.I b,.I c,.I d,.I e,.I f] 95 h λj k=>YC [bN] (λl=>l 0 k) λm (n:Int) o=>aQ j 0 o λp=>aQ j 1 o λq=>aQ j 2 o λr=>aQ j 3 o λs=>aQ j 4 o λt=>Xi.c p q r s t o λu v=>If (n<u) (bF a 0 v λx=>bM ((j.add 0).add 0) v λy=>bL (y+n) λz=>Xb.c x z g v λaa ab=>bL (n+8) λac=>m ac ab) (i v)
theorem XT.o {a b c d e f g h i}(j:XT.v a b c d e f g h i):XT.c a b c d e f g h i:=Wa Tryz.func47 (x:=XT.h) (R0 j)
def W7.h:Hn:=.q .o1 (.q (.q .o3 .aK) (.q .o9 (.q (.k (.q (.cS (.seq [.op,.op,.op,.cO false 3 (RI.ops 3),.op])) (.c .aM (.q .o4 .aK)))) .aM)))
def W7.v (a:R2)(b:Int)(c:Hp)(d:aN):Prop:=Ws.c a c λe f=>If (!e) (d 5 f) (YL.c a b ⟨44,#[],#[]⟩ f λg h i j k l m=>aV #[.I 0,.I 0,.I 0,.I 0,.I 0] 95 m λn o=>aR n 0 (.I g) o λp=>aR n 1 (.I h) p λq=>aR n 2 (.I i) q λr=>aR n 3 (.I j) r λs=>aR n 4 (.I k) s λt=>bR (λu v=>If u (d 7 v) (aQ n 0 v λw=>aQ n 1 v λx=>aQ n 2 v λy=>aQ n 3 v λz=>aQ n 4 v λaa=>W8.c a w x y z aa v λab ac=>If ab (d 5 ac) (d 0 ac))) λad=>If (!l) (ad true t) (Nz 8 <| ad ((b.tmod 8) != 0) t))
theorem W7.o {a b c d}(e:W7.v a b c d):W7.c a b c d:=Wa Tryz.func48 (x:=W7.h) (R0 e)
def W8.h:Hn:=.q .o2 (.q (.cS (.held true [7] (.tk [0,1,2,3,4,5,6] (.all [(7,.tk [8,9,10,11,12] (.done))])))) (.q (.cS (.seq [.op,.op,.op,.cO false 5 (RI.ops 5),.op])) .l))
def W8.v (a:R2)(b c d e f:Int)(g:Hp)(h:aO):Prop:=aV #[.I b,.I c,.I d,.I e,.I f] 95 g λi j=>eN j λk=>bT a λl=>aU k l 0 λm=>fV k bN ((i.add 0).add 2) λ(n:Int)=>Xs.c m n j λo p q=>bR (λr s=>h r s) λt=>If (p != 0) (t true q) (bM ((i.add 0).add 3) q λu=>t (o != u) q)
theorem W8.o {a b c d e f g h}(i:W8.v a b c d e f g h):W8.c a b c d e f g h:=Wa Tryz.func52 (x:=W8.h) (R0 i)
def W5.h:TX:=.nx (.o 3) (.nx (.o 1) (.r1 (.o 2) bN (.block (.seq (.o 11) (.seq (.cS (.seq [.op,.op,.op,.cO false 4 [.op,.op,.op,.op]])) (.cond (.o 5) (.leaf))))) (.seq (.o 2) (.leaf))))
def W5.v (a:R2)(b c d e f:Int)(g:Hp)(h:Sl->Hp->Prop):Prop:=aV #[.pointer a] 33 g λi j=>aV #[.I b,.I c,.I d,.I e,.I f] 95 j λk l=>aV #[.slice none 0 0] 34 l λm n=>aQ k 0 n λo=>aQ k 1 n λp=>aQ k 2 n λq=>aQ k 3 n λr=>aQ k 4 n λs=>XC.c o p q r s n λt u=>Az Tryz.prog (e1 bN) t u (λ(v:Int) w x=>fQ i x λy=>bF y 0 x λaa=>Yz.c aa v x λab ac ad=>bR (λae af=>If ae (ja m af λag=>aV #[.I v] 3 af λah ai=>App ag 1 8 3 [.I 0] ⟨some ah,1,1⟩ ai λaj ak=>eP m (.slice aj.a aj.len aj.cap) ak λal=>w al) (w af)) λam=>If (ac != 0) (am true ad) (Zs.c v ad λan ao=>am (ab != an) ao)) λap=>ja m ap λaq=>sT u.size ap λar=>h aq ar
theorem W5.o {a b c d e f g h}(i:W5.v a b c d e f g h):W5.c a b c d e f g h:=Br Tryz.func53 (x:=W5.h) (R0 i)
def YL.h:Hn:=.q .o2 (.q .o1 (.q .o2 (.q (.q .o5 (.k (.loop [(9,.one .b),(10,.one .b)] (.q (.cS (.seq [.it .i64 (.ag 5),.op])) (.q (.c .l .l) (.k (.q (.cS (.seq [.it .i64 (.ag 5),.op,.op,.op])) (.q (.q (.cS (.gQ true [] [(38,.one .b)] (.tk [0,1,2,3,4,5] (.split 28 (.tk [6,7,8,9,10,11,12,13,14,15] (.done)) (.tk [6,7,8,9,10,11] (.all [(12,.tk [13,14,15] (.done))])))))) (.c .l .l)) (.q .o5 (.q (.cS (.seq [.op,.op,.op,.cO false 5 [.op,.op,.cO true 2 [.op,.op]],.op,.cO false 10 [.op,.op,.op,.op,.cO true 5 (RI.ops 5)]])) (.c .o5 .l))))))))))) (.q .o4 .l))))
def YL.v (a:R2)(b:Int)(c:Fv)(d:Hp)(e:Int->Int->Int->Int->Int->Bool->Hp->Prop):Prop:=aV #[.I 0,.I 0,.I 0,.I 0,.I 0] 95 d λf g=>aV #[.I 0,.I 0,.I 0,.I 0,.I 0] 95 g λh i=>bI a 1 i λk=>mW .i64 (.ag 5) k i λl m=>YC [.b,.b] (λn=>n false false m) λo (p:Bool) (q:Bool) r=>mV .i64 (.ag 5) l r (aQ h 0 r λs=>aQ h 1 r λt=>aQ h 2 r λu=>aQ h 3 r λv=>aQ h 4 r λw=>aR f 0 (.I s) r λx=>aR f 1 (.I t) x λy=>aR f 2 (.I u) y λz=>aR f 3 (.I v) z λaa=>aR f 4 (.I w) aa λab=>aQ f 0 ab λac=>aQ f 1 ab λad=>aQ f 2 ab λae=>aQ f 3 ab λaf=>aQ f 4 ab λag=>e ac ad ae af ag p ab) (λah ai aj=>mT .i64 (.ag 5) l aj λak al=>aV #[.I 0,.I 0,.I 0,.I 0,.I 0] 95 aj λam an=>aR am 0 (.I al.1) an λao=>aR am 1 (.I al.2.1) ao λap=>aR am 2 (.I al.2.2.1) ap λaq=>aR am 3 (.I al.2.2.2.1) aq λar=>aR am 4 (.I al.2.2.2.2) ar λau=>Jn [.b] (λ(av:Bool) aw=>If av (o p q aw) (aQ am 0 aw λax=>aQ am 1 aw λay=>aQ am 2 aw λaz=>aQ am 3 aw λa0=>aQ am 4 aw λa1=>W8.c a ax ay az a0 a1 aw λa2 a3=>bR (λa4 a5=>bR (λa6 a7=>If a6 (aQ am 0 a7 λa8=>aQ am 1 a7 λa9=>aQ am 2 a7 λba=>aQ am 3 a7 λbb=>aQ am 4 a7 λbc=>aR h 0 (.I a8) a7 λbd=>
 aR h 1 (.I a9) bd λbe=>aR h 2 (.I ba) be λbf=>aR h 3 (.I bb) bf λbg=>aR h 4 (.I bc) bg λbh=>o true (!a2) bh) (o p q a7)) λbi=>If a4 (bi true a5) (bR (λbj bk=>bi bj bk) λbl=>If ((!a2)==q) (aQ am 4 a5 λbm=>aQ h 4 a5 λbn=>bl (decide (bm>bn)) a5) (bl false a5))) λbo=>If (!p) (bo true a3) (bR (λbp bq=>bo bp bq) λbr=>If (!a2) (br (!q) a3) (br false a3)))) λbs=>eN au λbt=>fV bt bN ((am.add 0).add 0) λ(bu:Int)=>If (b<bu) (bs true au) (fV bt bN ((am.add 0).add 0) λ(bv:Int)=>aS bt am 0 λbw=>aS bt am 1 λbx=>aS bt am 2 λbz=>aS bt am 3 λb0=>aS bt am 4 λb1=>VE Tryz.prog c [.agg #[.I bw,.I bx,.I bz,.I b0,.I b1]] [.I] au λb2 b3=>And (bt b3) <| bL (bv+b2) λb4=>bs (decide (b≥b4)) b3))
theorem YL.o {a b c d e}(f:YL.v a b c d e):YL.c a b c d e:=Wa Tryz.func56 (x:=YL.h) (R0 f)
def WS.h:Hn:=.q .o1 (.q (.q .o3 .aK) (.q (.q .o4 (.q .o2 .aJ)) (.q (.o 12) (.q (.k (.q (.cS (.seq [.op,.op,.op,.cO true 6 (RI.ops 6),.op])) (.c .aM (.q .o3 (.c .aM (.q .o4 (.c .aM (.q (.cS (.seq [.op,.op,.cO true 5 (RI.ops 5),.op])) .aK)))))))) (.q .o3 (.q .o6 (.q .o6 (.q (.cS (.tail 8 (RI.ops 8) [.op])) .aM))))))))
def WS.v (a:R2)(b c:Int)(d:Bool)(e:Hp)(f:aN):Prop:=Ws.c a e λg h=>If (!g) (f 5 h) (X8.c a b h λi j=>If (i != 0) (f i j) (bI a 1 j λl=>Lk .i64 (.ag 5) l c j λm=>aV #[.I 0,.I 0,.I 0,.I 0,.I 0] 95 j λn o=>aR n 0 (.I ((m.getD (0,0,0,0,0)).1)) o λp=>aR n 1 (.I ((m.getD (0,0,0,0,0)).2.1)) p λq=>aR n 2 (.I ((m.getD (0,0,0,0,0)).2.2.1)) q λr=>aR n 3 (.I ((m.getD (0,0,0,0,0)).2.2.2.1)) r λs=>aR n 4 (.I ((m.getD (0,0,0,0,0)).2.2.2.2)) s λt=>bR (λu v=>If u (f 9 v) (If (!m.isSome) (f 8 v) (aQ n 0 v λw=>aQ n 1 v λx=>aQ n 2 v λy=>aQ n 3 v λz=>aQ n 4 v λaa=>W8.c a w x y z aa v λab ac=>If ab (f 5 ac) (bR (λad ae=>If ad (f 10 ae) (aQ n 0 ae λaf=>aQ n 1 ae λag=>aQ n 2 ae λah=>aQ n 3 ae λai=>aQ n 4 ae λaj=>XT.c a af ag ah ai aj (-1234567) ae λak=>bI a 1 ak λam=>kY .i64 (.ag 5) am c ak λan=>bI a 2 an λap=>j2 .i64 .b ap c true an λaq=>bF a 0 aq λau=>bM ((n.add 0).add 2) aq λav=>Zb.c au b av aq λaw ax=>f 0 ax)) λay=>If d (aQ n 0 ac λaz=>aQ n 1 ac λa0=>aQ n 2 ac λa1=>aQ n 3 ac λa2=>aQ n 4 ac λa3=>W5.c a az a0 a1 a2 a3 ac λa4 a5=>ay (decide (((a4.len:Nat):Int)>0)) a5) (ay false ac))))) λa6=>If (!m.isSome) (bI a 2 t λa8=>
 Lk .i64 .b a8 c t λa9=>a6 (a9.getD false) t) (a6 false t)))
theorem WS.o {a b c d e f}(g:WS.v a b c d e f):WS.c a b c d e f:=Wa Tryz.func63 (x:=WS.h) (R0 g)
def Zw.h:Hn:=.q .o1 (.q (.cS (.seq [.op,.op,.op,.cO true 4 (RI.ops 4),.op])) .l)
def Zw.v (a:R2)(b:Hp)(c:aO):Prop:=bR (λd e=>c d e) λf=>If (!a.isNone) (Xk.c a b λg h i j k l=>f (decide (g>0)) l) (f false b)
theorem Zw.o {a b c}(d:Zw.v a b c):Zw.c a b c:=Wa Tryz.func65 (x:=Zw.h) (R0 d)
def cG.ql (l:Nat)(cap0:Addr)(U:Hp)(R:aP):Prop:=yd Tryz.prog 82 #[.func (.yield l) #[] #[],.pointer (some cap0)] U R
def cG.tK:Hn:=.seq (.seq (.o 4) (.block (.loop [(3,.one bN)] (.seq (.seq (.o 5) (.cond (.leaf) (.leaf))) (.seq (.block (.seq (.leaf) (.cond (.leaf) (.leaf)))) (.o 3)))))) (.seq (.cS (.held true [] (.tk [0,1,2,3] (.all [(4,.take 5 (.take 6 (.done)))])))) (.block (.loop [(4,.one bN)] (.seq (.seq (.o 10) (.cond (.leaf) (.leaf))) (.seq (.block (.seq (.leaf) (.cond (.leaf) (.leaf)))) (.o 3))))))
def cG.tn (l:Nat)(cap0:Addr)(U:Hp)(R:aP):Prop:=
 gP .i64 ((cap0.add 0).add 2) U λvw=>
 YC [bN] (λI=>I vw U) λJ (vw1:Int) v=>
 gP .i64 ((cap0.add 0).add 0) v λt11=>
 If (decide (vw1<t11)) (UF Tryz.prog l [.int .i64 vw1] v λmore v1=>
  If (!more) (R v1)
   (Ar .i64 (vw1+8) λvw2=>
   J vw2 v1))
  (eN v λS=>
  fV S bN ((cap0.add 0).add 0) λ(t21:Int)=>
  fV S bN (cap0.add 0) λ(t22:Int)=>
  fV S bN (cap0.add 1) λ(t221:Int)=>
  fV S bN (cap0.add 2) λ(t222:Int)=>
  fV S bN (cap0.add 3) λ(t223:Int)=>
  fV S bN (cap0.add 4) λ(t224:Int)=>
  Xi.c t22 t221 t222 t223 t224 v λt23 v2=>
  And (S v2) <|
  Ar .i64 (t21+t23) λvw3=>
  YC [bN] (λI1=>I1 vw3 v2) λJ1 (vw4:Int) v3=>
  Ar .i64 (vw4+8) λt26=>
  gP .i64 ((cap0.add 0).add 2) v3 λt29=>
  gP .i64 ((cap0.add 0).add 3) v3 λt32=>
  Ar .i64 (t29+t32) λt33=>
  If (decide (t26<=t33)) (UF Tryz.prog l [.int .i64 vw4] v3 λmore1 v4=>
   If (!more1) (R v4)
    (Ar .i64 (vw4+8) λvw5=>
    J1 vw5 v4))
   (R v3))
theorem cG.rJ {l:Nat}{cap0:Addr}{U:Hp}{R:aP}(hv:cG.tn l cap0 U R):cG.ql l cap0 U R:=
 N8 Tryz.func82 (x:=cG.tK) (args:=[.func (.yield l) #[] #[],.pointer (some cap0)]) (R:=R) (R0 hv)
def X8.h:Hn:=.q .o1 (.q (.q (.cS (.seq [.op,.op,.op,.cO false 8 (RI.ops 8)])) .aK) (.q (.q .o7 .aK) .aM))
def X8.v (a:R2)(b:Int)(c:Hp)(d:aN):Prop:=bR (λe f=>If e (d 1 f) (bF a 0 f λh=>YQ.c h b f λi j=>If (!(i.toList==(ByteArray.mk #[]).toList)) (d 5 j) (d 0 j))) λk=>If (b<0) (k true c) (bF a 0 c λm=>Xk.c m c λn o p q r s=>k (decide (b≥p)) s)
theorem X8.o {a b c d}(e:X8.v a b c d):X8.c a b c d:=Wa Tryz.func90 (x:=X8.h) (R0 e)
end Go.Proofs
namespace Go.Ar
open Go Go.Vc Go.Proofs
open Go.Vc (bY dG di)
variable {U σ0 v w w':Hp}{F P Q X T:Rg}{L:dP}{H H':Hw}{held:List Pc}{s0 sp:Sp}{t n:Nat}{g:Th}{gb km fm m:Nat}
theorem jq {S:aP}{b i:Nat}{cs:List Value}{c:CK}{y:c.T}(hS:∀m,S m->bX m b cs)(hc:cs[i]?=some (c.v y)){K:c.T->Prop}(hK:K y):fV S c (Addr.add ⟨b,0,none⟩ i) K:=
 ⟨y,λm a=>by rw[add_lit,(hS m a).cell,zH];exact hc,hK⟩
theorem ri {S:aP}{b:Nat}{cs:List Value}{c:CK}{y:c.T}(hS:∀m,S m->bX m b cs)(hc:cs[0]?=some (c.v y)){K:c.T->Prop}(hK:K y):fV S c ⟨b,0,none⟩ K:=
 ⟨y,λm a=>by rw[(hS m a).cell];exact hc,hK⟩
theorem n0 {S:aP}{b i j:Nat}{cs:List Value}{c:CK}{y:c.T}(hS:∀m,S m->bX m b cs)(hc:cs[i+j]?=some (c.v y)){K:c.T->Prop}(hK:K y):fV S c (Addr.add (Addr.add ⟨b,0,none⟩ i) j) K:=
 ⟨y,λm a=>by rw[add_lit,add_lit,(hS m a).cell,zH];exact hc,hK⟩
abbrev B5:=Int×Int×Int×Int×Int
def fE (b:B5):List Value:=[.int .i64 b.1,.int .i64 b.2.1,.int .i64 b.2.2.1,.int .i64 b.2.2.2.1,.int .i64 b.2.2.2.2]
def ZY (n:Int):Int:=(n+7)/8*8
structure jY (b:B5):Prop where
 s:1<=b.2.1/\b.2.1<=1024
 base:0<=b.2.2.1/\b.2.2.1%8=0
 z:16<=b.1-b.2.2.1/\b.1-b.2.2.1<=256/\b.1%8=0
 t:b.1+ZY b.2.1+16<=b.2.2.1+b.2.2.2.1/\b.2.2.2.1%8=0
 m:b.2.2.1+b.2.2.2.1<=270000
theorem Kw {n:Int}(h:0<=n):n<=ZY n/\ZY n<=n+7/\ZY n%8=0:=by unfold ZY;omega
structure Gu where
 kn:List (Int×B5)
 fr:List (Int×Bool)
 no:Int
def Aa:Gu:=⟨[],[],0⟩
def Vf (b:B5):Nat:=(b.1-b.2.2.1).toNat/8
def oD (b:B5):Nat:=(b.2.2.1+b.2.2.2.1-b.1-ZY b.2.1).toNat/8
def ZZ (b:B5):List Int:=((List.range (Vf b)).map λ(i:Nat)=>b.2.2.1+8*(i:Int))++(List.range (oD b)).map λ(i:Nat)=>b.1+ZY b.2.1+8*(i:Int)
theorem C4 (b:B5):(ZZ b).length=Vf b+oD b:=by unfold ZZ;simp
theorem NR {b:B5}{i:Nat}(h:i<Vf b):(ZZ b)[i]?=some (b.2.2.1+8*(i:Int)):=by
 unfold ZZ;rw[zg (by simpa using h)];simp[h]
theorem Mi {b:B5}{i:Nat}(h:i<oD b):(ZZ b)[Vf b+i]?=some (b.1+ZY b.2.1+8*(i:Int)):=by
 unfold ZZ;rw[zn aA];simp[h]
theorem Ba {b:B5}(bi:jY b){z:Int}(hz:z∈ZZ b):b.2.2.1<=z/\z%8=0/\z+8<=b.2.2.1+b.2.2.2.1/\(z+8<=b.1\/b.1+ZY b.2.1<=z):=by
 obtain⟨s,⟨e,r⟩,⟨g,u,d⟩,⟨t,j⟩,m⟩:=bi;have p:=Kw (n:=b.2.1) O;unfold ZZ at hz;rcases zL.1 hz with h|h
 ·obtain⟨i,a,rfl⟩:=zF.1 h;have:=zh.1 a;unfold Vf at this;exact⟨O,O,O,.inl O⟩
 ·obtain⟨i,a,rfl⟩:=zF.1 h;have:=zh.1 a;unfold oD at this;exact⟨O,O,O,.inr O⟩
def lR (z:Int):Int:=-z-1
def qp (hp km fm:Nat)(x:Gu):List Value:=[.pointer (some ⟨hp,0,none⟩),.map (some km),.map (some fm),.int .i64 x.no]
structure GP (σ0 U:Hp) (L:dP) (H:Hw) (held:List Pc) (s0:Sp) (P:Rg) (gb km fm:Nat) (x:Gu):Prop where
 e:bK σ0 U
 h:HH U P L H
 hi:HI H held s0
 cf:lT H
 pg:H.cf.aF<=128
 pP:∀b,P b->σ0.size<=b/\b<U.size
 pY:σ0.size<=gb/\¬P gb
 q9:σ0.size<=km/\¬P km
 rl:σ0.size<=fm/\¬P fm
 n1:gb≠km
 n2:gb≠fm
 n3:km≠fm
 b:bX U gb (qp L.p km fm x)
 m:dI U km .i64 (.ag 5) x.kn
 f:dI U fm .i64 .b x.fr
 g0:iC (λb=>σ0.size<=b)/\¬σ0.size<=1
variable {x y:Gu}
theorem GP.fr (p:GP σ0 U L H held s0 P gb km fm x)(e:bK U w):GP σ0 w L H held s0 P gb km fm x:=
 ⟨p.e.trans e,p.h.bO e,p.hi,p.cf,p.pg,λb a=>⟨(p.pP b a).1,by have:=(p.pP b a).2;have:=e.1;omega⟩,p.pY,p.q9,p.rl,p.n1,p.n2,p.n3,e.bU p.b id,e.fK p.m id,e.fK p.f id,p.g0⟩
theorem GP.out (p:GP σ0 U L H held s0 P gb km fm x)(e:Ext T U w)(hT:∀b,b<U.size->T b->¬P b/\b≠gb/\b≠km/\b≠fm/\σ0.size<=b):GP σ0 w L H held s0 P gb km fm x:=by
 have s:=e.1;have a:=p.b.lt;have j:=p.m.lt;have g:=p.f.lt;have i:Ext (λb=>T b/\b<U.size) U w:=⟨e.1,λb a g=>e.2 b a λd=>g ⟨d,a⟩⟩;refine⟨Ext.dS p.e i λb a=>.inr (hT b a.2 a.1).2.2.2.2,p.h.bS i (λb a r d=>(hT b a d.1).1 r) (λb a=>?_) (λa=>?_),p.hi,p.cf,p.pg,λb a=>⟨(p.pP b a).1,by have:=(p.pP b a).2;omega⟩,p.pY,p.q9,p.rl,p.n1,p.n2,p.n3,e.bU p.b λd=>(hT gb a d).2.1 rfl,e.fK p.m λd=>(hT km j d).2.2.1 rfl,e.fK p.f λd=>(hT fm g d).2.2.2.1 rfl,p.g0⟩
 ·exact p.g0.1 b (hT b a.2 a.1).2.2.2.2
 ·exact p.g0.2 (hT _ a.2 a.1).2.2.2.2
theorem GP.step (p:GP σ0 U L H held s0 P gb km fm x){ts':List eC}(e:Ext P U w)(h':HH w (Grow P U) {L with ts:=ts'} H'){held':List Pc}{s0':Sp}(hi':HI H' held' s0')(k:QA H' H) :
 GP σ0 w {L with ts:=ts'} H' held' s0' (Cut (Grow P U) w) gb km fm x:=by
 have u:=e.1;have a:=p.b.lt;have j:=p.m.lt;have s:=p.f.lt;have d:∀b,b<U.size->¬P b->¬Cut (Grow P U) w b:=λb g r i=>by
  rcases i.1 with h3|h3
  ·exact r h3
  ·omega
 refine⟨Ext.dS p.e e λb a=>.inr (p.pP b a).1,h'.cut,hi',p.cf.bS k,by rw[k.2.1];exact p.pg,λb a=>⟨?_,a.2⟩,⟨p.pY.1,d gb a p.pY.2⟩,⟨p.q9.1,d km j p.q9.2⟩,⟨p.rl.1,d fm s p.rl.2⟩,p.n1,p.n2,p.n3,e.bU p.b p.pY.2,e.fK p.m p.q9.2,e.fK p.f p.rl.2,p.g0⟩;have:=p.e.1;rcases a.1 with g|g
 ·exact(p.pP b g).1
 ·omega
theorem GP.fH (p:GP σ0 U L H held s0 P gb km fm x)(e:Ext (λb=>b=gb\/b=km\/b=fm) U w)(hb:bX w gb (qp L.p km fm y))(hm:dI w km .i64 (.ag 5) y.kn)(hf:dI w fm .i64 .b y.fr):GP σ0 w L H held s0 P gb km fm y:=by
 have i:=e.1;have a:∀b,(b=gb\/b=km\/b=fm)->σ0.size<=b/\¬P b:=λb hb=>by
  rcases hb with rfl|rfl|rfl
  ·exact p.pY
  ·exact p.q9
  ·exact p.rl
 exact⟨Ext.dS p.e e λb hb=>.inr (a b hb).1,p.h.bS e (λb _ g d=>(a b d).2 g) (λb hb=>p.g0.1 b (a b hb).1) (λhb=>p.g0.2 (a _ hb).1),p.hi,p.cf,p.pg,λb hb=>⟨(p.pP b hb).1,by have:=(p.pP b hb).2;omega⟩,p.pY,p.q9,p.rl,p.n1,p.n2,p.n3,hb,hm,hf,p.g0⟩
theorem HF (p:GP σ0 U L H held s0 P gb km fm x){R:aO}(hR:R true U):Ws.c (aW gb) U R:=by
 refine Ws.o ?_;unfold Ws.v;exact bR.intro (cB rfl (aG (p.b.rP rfl hR)))
theorem UJ (b:B5)(h0:0<=b.2.1)(h1:b.2.1<=1000000){R:aN}(hR:∀σ',bK U σ'->R (ZY b.2.1) σ'):Xi.c b.1 b.2.1 b.2.2.1 b.2.2.2.1 b.2.2.2.2 U R:=by
 refine Xi.o ?_;unfold Xi.v;refine nw (cs:=fE b) λv d e a=>a.fR rfl (ar O O (ar O O (nz aB (ar (by rw[Yi O];omega) (by rw[Yi O];omega) ?_))));rw[Yi O];refine ar O O ?_;have:(b.2.1+8-1)/8*8=ZY b.2.1:=by unfold ZY;omega
 rw[this];exact hR v e
theorem D6 (z:Int)(h0:0<=z)(h1:z<=1000000){R:aN}(hR:R (lR z) U):Zs.c z U R:=by
 refine Zs.o ?_;unfold Zs.v;refine ar O O (ar O O ?_);have:0-z-1=lR z:=by unfold lR;omega
 rw[this];exact hR
theorem AN (b:B5){R:Fv->Hp->Prop}(hR:∀σ',σ'.size=U.size+1->bK U σ'->bX σ' U.size (fE b)->R ⟨82,#[],#[.pointer (some ⟨U.size,0,none⟩)]⟩ σ'):XC.c b.1 b.2.1 b.2.2.1 b.2.2.2.1 b.2.2.2.2 U R:=by
 refine XC.o ?_;unfold XC.v;exact nw (cs:=fE b) λv d e a=>hR v d e a
theorem Gw {P:Program}{l:Nat}{args:List Value}{h:Hp}{R R':Bool->Hp->Prop}(hy:UF P l args h R)(hm:∀b w,R b w->R' b w):UF P l args h R':=λw p=>by
 obtain⟨m,a,g,u,s,j⟩:=hy w p;exact⟨m,a,g,u,s,j.mono λe x ⟨r,b,d,i⟩=>⟨r,b,d,hm _ _ i⟩⟩
theorem AY {b:B5}(bi:jY b):tV Tryz.prog ⟨82,#[],#[.pointer (some ⟨n,0,none⟩)]⟩ ((ZZ b).map (e1 bN)) (λs=>bX s n (fE b)):=by
 intro l J hst hKp hy h h0;obtain⟨s,⟨M,P⟩,⟨N,R,L⟩,⟨t,H⟩,K⟩:=bi;have Q:=Kw (n:=b.2.1) O;have G:(Vf b:Int)*8=b.1-b.2.2.1:=by unfold Vf;omega
 have D:(oD b:Int)*8=b.2.2.1+b.2.2.2.1-b.1-ZY b.2.1:=by unfold oD;omega
 show cG.ql l ⟨n,0,none⟩ h λE=>J ((ZZ b).map (e1 bN)).length E;rw[zl,C4];refine cG.rJ ?_;unfold cG.tn;refine(hKp 0 h h0).fR rfl (Z5 (a:=bN) (λ(z:Int) s=>∃i:Nat,z=b.2.2.1+8*(i:Int)/\i<=Vf b/\J i s) (λz _=>(b.1-z).toNat) ⟨0,O,O,h0⟩ ?_);rintro(z:Int) s ⟨i,rfl,hi,hJ⟩;have B:=hKp i s hJ;refine B.fR rfl (cR (λw=>?_) λA=>?_)
 ·have d:i<Vf b:=by omega
  have x:((ZZ b).map (e1 bN))[i]?=some [Value.int .i64 (b.2.2.1+8*(i:Int))]:=by rw[zd,NR d];rfl
  refine Gw (hy i _ x s hJ) λC F ⟨g,j⟩=>?_;subst g;exact cE rfl (ar O O ⟨⟨i+1,O,O,j⟩,O⟩)
 ·have d:i=Vf b:=by omega
  subst d;have p:∀m,bK s m->bX m n (fE b):=λm e=>e.bU B id;refine⟨λm=>bK s m,Ext.refl _ _,n0 (c:=bN) (y:=b.1) p rfl (jq (c:=bN) (y:=b.1) p rfl (jq (c:=bN) (y:=b.2.1) p rfl (jq (c:=bN) (y:=b.2.2.1) p rfl (jq (c:=bN) (y:=b.2.2.2.1) p rfl (jq (c:=bN) (y:=b.2.2.2.2) p rfl ?_)))))⟩;refine UJ b O O λs1 u=>⟨u,ar O O ?_⟩;refine Z5 (a:=bN) (λ(z:Int) s=>∃i:Nat,z=b.1+ZY b.2.1+8*(i:Int)/\i<=oD b/\J (Vf b+i) s) (λz _=>(b.2.2.1+b.2.2.2.1-z).toNat) ⟨0,O,O,hst _ _ _ hJ u⟩ ?_;rintro(z:Int) s2 ⟨i,rfl,hi,hJ2⟩;have r:=hKp _ s2 hJ2;refine ar O O (r.fR rfl (r.fR rfl (ar O O (cR (λw=>?_) λA=>?_))))
  ·have d:i<oD b:=by omega
   have x:((ZZ b).map (e1 bN))[Vf b+i]?=some [Value.int .i64 (b.1+ZY b.2.1+8*(i:Int))]:=by rw[zd,Mi d];rfl
   refine Gw (hy _ _ x s2 hJ2) λC F ⟨g,j⟩=>?_;subst g;exact cE rfl (ar O O ⟨⟨i+1,O,O,j⟩,O⟩)
  ·have d:i=oD b:=by omega
   subst d;exact hJ2
def GK (H:Hw)(b:B5):Bool:=!(K0 H b.2.2.1==some b.2.2.2.1)
theorem HE (p:GP σ0 U L H held s0 P gb km fm x)(b:B5){R:aO}(hR:∀σ',bK U σ'->R (GK H b) σ'):W8.c (aW gb) b.1 b.2.1 b.2.2.1 b.2.2.2.1 b.2.2.2.2 U R:=by
 refine W8.o ?_;unfold W8.v;refine nw (cs:=fE b) λv s e j=>?_;have g:=p.fr e;refine⟨λm=>bK v m,Ext.refl _ _,aG (jq (c:=.p) (y:=some ⟨L.p,0,none⟩) (λm e=>e.bU g.b id) rfl (n0 (c:=bN) (y:=b.2.2.1) (λm e=>e.bU j id) rfl (Gj g.h b.2.2.1 λr e1=>?_)))⟩;have d:=e1.bU j id;have a:=hR r (e.trans e1);refine bR.intro ?_;cases hu:K0 H b.2.2.1 with
 | none=>
  unfold GK at a;rw[hu]at a;exact cB rfl a
 | some u=>
  unfold GK at a;rw[hu]at a;refine cE rfl (d.fR rfl ?_);have:(!(some u==some b.2.2.2.1))=((some u).getD 0 != b.2.2.2.1):=by simp[bne]
  rw[this]at a;exact a
def KM (H:Hw)(thread:Int):Int:=if thread<0\/thread≥(H.cf.threads:Int)then 1 else if(VJ H thread).isSome then 5 else 0
theorem IW (p:GP σ0 U L H held s0 P gb km fm x)(thread:Int){R:aN}(hR:∀σ',bK U σ'->R (KM H thread) σ'):X8.c (aW gb) thread U R:=by
 refine X8.o ?_;unfold X8.v;refine KB (λr u=>bK U u/\r=decide (thread<0\/thread≥(H.cf.threads:Int))) (λr u ⟨d,j⟩=>?_) λJ i=>?_
 ·by_cases hc:thread<0\/thread≥(H.cf.threads:Int)
  ·have a:=hR u d;unfold KM at a;rw[zC hc]at a;exact cB (by rw[j];exact zK hc) a
  ·have g:=p.fr d;refine cE (by rw[j];exact zM hc) (aG (g.b.rP rfl (EU g.h thread λs m e2 w=>?_)));have a:=hR m (d.trans e2);unfold KM at a;rw[zB hc]at a;rw[w];cases hp:VJ H thread with
   | none=>rw[hp]at a;exact cE rfl a
   | some q=>rw[hp]at a;exact cB rfl a
 ·refine cR (λh=>i _ _ ⟨Ext.refl _ _,by rw[zK];exact .inl h⟩) λh=>aG (p.b.rP rfl (CZ p.h λu e=>i _ _ ⟨e,?_⟩));rw[mq,decide_eq_true_iff,decide_eq_true_iff];exact⟨.inr,λy=>y.resolve_left h⟩
theorem IP (h:HH U F L H)(hp:1<=H.cf.aF){R:aO}(hR:∀σ',bK U σ'->R true σ'):Zw.c (aW L.p) U R:=by
 refine Zw.o ?_;unfold Zw.v;refine bR.intro (cB rfl (CZ h λw e=>?_));have:decide ((H.cf.aF:Int)>0)=true:=zK O;rw[this];exact hR w e
theorem FY (e0:bK σ0 U)(h:HH U P L H)(hi:HI H held s0)(hc:lT H)(hpg:H.cf.aF<=128)(hP:∀b,P b->σ0.size<=b/\b<U.size)(hg:iC (λb=>σ0.size<=b)/\¬σ0.size<=1){R:Option Addr->Int->Hp->Prop}
 (hR:∀w gb km fm,bK U w->U.size<=gb/\U.size<=km/\U.size<=fm->GP σ0 w L H held s0 P gb km fm Aa->R (some ⟨gb,0,none⟩) 0 w):Z3.c (aW L.p) U R:=by
 refine Z3.o ?_;unfold Z3.v;refine IP h hc.1 λv e=>cE rfl (qZ λi u e1 z=>qZ λr x e2 A=>nw (cs:=qp L.p v.size i.size Aa) λv3 s g m=>?_);have D:=e.1;have B:=e0.1;have a:=((e.trans e1).trans e2).trans g;have d:∀b,U.size<=b->¬P b:=λb C y=>by have:=(hP b y).2;omega
 exact hR v3 r.size v.size i.size a ⟨O,O,O⟩ ⟨e0.trans a,h.bO a,hi,hc,hpg,λb j=>⟨(hP b j).1,by have:=(hP b j).2;have:=a.1;omega⟩,⟨O,d _ O⟩,⟨O,d _ O⟩,⟨O,d _ O⟩,O,O,O,m,(e2.trans g).fK (z _ _) id,g.fK (A _ _) id,hg⟩
end Go.Ar
namespace Go.Ar
open Go Go.Vc Go.Proofs
open Go.Vc (bY dG di)
variable {U σ0 v w w':Hp}{F P Q X T:Rg}{L:dP}{H H':Hw}{held:List Pc}{s0 sp:Sp}{t n:Nat}{g:Th}{gb km fm m:Nat}{x y:Gu}{b:B5}
def m8 (sp:Sp)(l:List Int)(f:Int->Int):Sp:=l.foldl (λs z=>ZL s z (f z)) sp
theorem CR (sp:Sp)(l:List Int)(z:Int)(f:Int->Int):m8 sp (l++[z]) f=ZL (m8 sp l f) z (f z):=by unfold m8;rw[tH];rfl
theorem HI.m8 (f:Int->Int):∀(l:List Int) {H:Hw} {s0:Sp},HI H held s0->∃s0',HI {H with sp:=Go.Ar.m8 H.sp l f} held s0'
 | [],H,s0,h=>⟨s0,h⟩
 | z::l,H,s0,h=>HI.m8 f l (h.write z (f z))
def uL (b:B5):Nat:=(ZY b.2.1/8).toNat
def yo (b:B5):List Int:=(List.range (uL b)).map λ(i:Nat)=>b.1+8*(i:Int)
theorem GP.write (p:GP σ0 U L H held s0 P gb km fm x)(gc:Gc σ0)(z u:Int)(hz:z<=9223372036854775807){R:aN}
 (hR:∀w s0' P',Ext P U w->GP σ0 w L {H with sp:=ZL H.sp z u} held s0' P' gb km fm x->(∀c,P' c->P c\/U.size<=c)->R (fG H.sp z) w):Xb.c (aW L.p) z u U R:=by
 refine Ou p.h (gc.bO p.e) z u hz λw e b=>?_;exact hR w _ _ e (p.step (ts':=L.ts) e b (p.hi.write z u) ⟨rfl,rfl,rfl,rfl⟩) λc a=>a.1
theorem Cb {D:Nat}{s:Hp}{K:aP}(h:s[D]?=some (.deferred (some [])))(hK:∀w,Ext (· = D) s w->K w):sT D s K:=
 ⟨h,hK _ ⟨by simp,λb d a=>by rw[Array.getElem?_setIfInBounds,zB λh=>a h.symm]⟩⟩
set_option maxRecDepth 8000 in
theorem CP (p:GP σ0 U L H held s0 P gb km fm x)(gc:Gc σ0)(bi:jY b)(val:Int){R:aP}
 (hR:∀w s0' P',Ext P U w->GP σ0 w L {H with sp:=m8 H.sp (yo b) λ_=>val} held s0' P' gb km fm x->(∀c,P' c->P c\/U.size<=c)->R w):XT.c (aW gb) b.1 b.2.1 b.2.2.1 b.2.2.2.1 b.2.2.2.2 val U R:=by
 obtain⟨⟨s1,s2⟩,⟨V,X⟩,⟨W,Z,S⟩,⟨t,M⟩,Q⟩:=bi;have Y:=Kw (n:=b.2.1) O;have N:(uL b:Int)*8=ZY b.2.1:=by unfold uL;omega
 refine XT.o ?_;unfold XT.v;refine nw (cs:=fE b) λv hz e D=>?_;refine Z5 (a:=bN) (λ(z:Int) u=>∃(i:Nat) (s0':Sp) (P':Rg),z=8*(i:Int)/\i<=uL b/\Ext P v u/\bX u U.size (fE b)/\GP σ0 u L {H with sp:=m8 H.sp ((List.range i).map λ(j:Nat)=>b.1+8*(j:Int)) λ_=>val} held s0' P' gb km fm x/\∀c,P' c->P c\/v.size<=c) (λz _=>(ZY b.2.1-z).toNat)
  ⟨0,s0,P,O,O,Ext.refl _ _,D,p.fr e,λc g=>.inl g⟩ ?_
 rintro(z:Int) u ⟨i,s0',P',rfl,hi,eu,hbu,pu,hP⟩;refine hbu.rI rfl (hbu.rI rfl (hbu.rI rfl (hbu.rI rfl (hbu.rI rfl (UJ b O O λE e1=>?_)))));have d:=e1.bU hbu id;have r:=pu.fr e1;refine cR (λB=>?_) λJ=>?_
 ·refine aG (r.b.rP rfl (d.fR rfl (ar O O (r.write gc _ val O λK m P'' e2 C y=>?_))));have G:=e1.1;have A:=eu.1;refine ar O O ⟨⟨i+1,m,P'',O,O,Ext.dS (eu.jx e1) e2 hP,e2.bU d λF=>?_,?_,λc g=>?_⟩,O⟩
  ·rcases hP _ F with h|h
   ·have:=(p.pP _ h).2;omega
   ·omega
  ·rw[pN,lI,List.map_singleton,CR];exact C
  ·rcases y c g with h|h
   ·exact hP c h
   ·exact .inr O
 ·have s:i=uL b:=by omega
  subst s;refine hR E _ _ ((bK.to e).trans (eu.jx e1)) r λc g=>?_;have:=e.1;exact(hP c g).imp id λh=>by omega
def j7 (sp:Sp)(z:Int):Bool:=fG sp z != 0||BF sp z != lR z
def U3 (sp:Sp)(b:B5):List Int:=(ZZ b).filter (j7 sp)
set_option maxRecDepth 16000 in
theorem Bz (p:GP σ0 U L H held s0 P gb km fm x)(bi:jY b){R:Sl->Hp->Prop}
 (hR:∀s w Q,bK U w->bW s 1 (Wx (U3 H.sp b)) w Q->(∀c,Q c->U.size<=c/\c<w.size)->R s w):W5.c (aW gb) b.1 b.2.1 b.2.2.1 b.2.2.2.1 b.2.2.2.2 U R:=by
 refine W5.o ?_;unfold W5.v;refine nw (cs:=[.pointer (some ⟨gb,0,none⟩)]) λv1 hz1 e1 b1=>nw (cs:=fE b) λN hz2 e2 b2=>nw (cs:=[.slice none 0 0]) λv3 hz3 X b3=>?_;have y:=X.bU b2 id;have b1':=(e2.trans X).bU b1 id;refine y.rI rfl (y.rI rfl (y.rI rfl (y.rI rfl (y.rI rfl (AN b λV hz4 e4 b4=>?_)))));have Z:=((e1.trans e2).trans X).trans e4;have hzs:(ZZ b).length<=100000:=by
  obtain⟨⟨s1,s2⟩,⟨b1,b2⟩,⟨z1,z2,z3⟩,⟨t,t2⟩,hm⟩:=bi;have hw:=Kw (n:=b.2.1) O;rw[C4];unfold Vf oD;omega
 refine⟨rfl,by kernel_rfl,ZZ b,_,λk s=>bK U s/\bX s U.size [.pointer (some ⟨gb,0,none⟩)]/\bX s v3.size (fE b)/\∃(sl:Sl) (Q:Rg),bX s N.size [.slice sl.a sl.len sl.cap]/\bW sl 1 (Wx (((ZZ b).take k).filter (j7 H.sp))) s Q/\∀c,Q c->V.size+2<=c/\c<s.size,AY bi,?_,λk s h=>h.2.2.1,?_,?_,?_⟩
 ·rintro k s s' ⟨B,E,F,sl,Q,C,D,A⟩ e;have hz:=e.1;refine⟨Ext.dS B e λc d=>.inr O,e.bU E O,e.bU F O,sl,Q,e.bU C O,aI.bS D e λc _ W d=>?_,λc d=>?_⟩
  ·have:=A c W;omega
  ·have:=A c d;omega
 ·exact⟨Z,(e4).bU b1' id,b4,⟨none,0,0⟩,λ_=>False,e4.bU b3 id,⟨rfl,.inl ⟨rfl,rfl⟩⟩,λc d=>d.elim⟩
 ·rintro k z hk s ⟨B,E,F,sl,Q,C,D,A⟩ hsz;have zi:=Ba bi (zG hk);have M:=bi.base;have hm:=bi.m;have hkl:=(cX.1 hk).1;have ps:=p.fr B;have K:(ZZ b).take (k+1)=(ZZ b).take k++[z]:=by rw[lj,hk];rfl
  refine E.oQ rfl (aG (ps.b.rP rfl (Pt ps.h z O λv5 g=>?_)));have hz5:=g.1;refine KB (λr u=>u=v5/\r=j7 H.sp z) (λr u ⟨hu,hr⟩=>?_) λJ hJ=>?_
  ·subst hu;have G:=aI.bO D g;have i:∀c,Q c->c≠V.size/\c≠V.size+1/\c≠U.size/\c≠v3.size/\c≠N.size:=λc d=>by have:=A c d;omega
   refine cY (λM=>?_) λM=>?_
   ·refine(g.bU C id).sJ rfl (OY G ?_ z λs' v8 e8 h8=>?_)
    ·have B:=sD (j7 H.sp) ((ZZ b).take k);rw[zZ]at B;omega
    have hz8:=e8.1;have Y:=e8.bU (g.bU C id) λd=>(i _ d).2.2.2.2 rfl;refine Y.s0 aA λv9 o9 h9=>?_;have e9:=o9.ext;have hz9:=o9.1;have j:Ext (λc=>Q c\/c=N.size) u v9:=(e8.sub λc d=>.inl d).trans (e9.sub λc d=>.inr d);refine⟨⟨Ext.dS (B.trans g) j λc d=>?_,j.bU (g.bU E id) ?_,j.bU (g.bU F id) ?_,s',λc=>Q c\/u.size<=c/\c<v8.size,h9,?_,λc d=>?_⟩,?_,?_⟩
    ·rcases d with d|d
     ·have:=A c d;exact .inr O
     ·exact .inr O
    ·rintro(d|d)
     ·exact(i _ d).2.2.1 rfl
     ·omega
    ·rintro(d|d)
     ·exact(i _ d).2.2.2.1 rfl
     ·omega
    ·have:((ZZ b).take (k+1)).filter (j7 H.sp)=((ZZ b).take k).filter (j7 H.sp)++[z]:=by
      rw[K,wL,wA (by rw[←hr];exact M)];rfl
     rw[this];refine aI.bS h8 e9 λc _ d (hx:c=N.size)=>?_;rcases d with d|d
     ·exact(i _ d).2.2.2.2 hx
     ·omega
    ·rcases d with d|d
     ·have:=A c d;omega
     ·omega
    ·rw[j.2 _ O (by rintro(d|d);exact(i _ d).1 rfl;omega)];exact g.2 _ O id
    ·rw[j.2 _ O (by rintro(d|d);exact(i _ d).2.1 rfl;omega)];exact g.2 _ O id
   ·refine⟨⟨B.trans g,g.bU E id,g.bU F id,sl,Q,g.bU C id,?_,λc d=>?_⟩,g.2 _ O id,g.2 _ O id⟩
    ·have:((ZZ b).take (k+1)).filter (j7 H.sp)=((ZZ b).take k).filter (j7 H.sp):=by
      rw[K,wL,wO (by rw[←hr,M];decide),List.filter_nil,lF]
     rw[this];exact G
    ·have:=A c d;omega
  ·refine cY (λh=>hJ _ _ ⟨rfl,by unfold j7;rw[h];rfl⟩) λh=>D6 z O O (hJ _ _ ⟨rfl,by unfold j7;rw[h];rfl⟩)
 ·rintro s ⟨B,E,F,sl,Q,C,D,A⟩ hD;rw[mX]at D;refine C.sJ rfl (Cb hD λw S=>?_);have hz:=S.1;refine hR sl w Q (Ext.dS B S λc d=>.inr O) (aI.bS D S λc _ W d=>?_) λc d=>?_
  ·have:=A c W;omega
  ·have:=A c d;omega
end Go.Ar
namespace Go.Ar
open Go Go.Vc Go.Proofs
open Go.Vc (bY dG di)
variable {U w w':Hp}{F P Q X:Rg}{L:dP}{H H':Hw}{held:List Pc}{s0:Sp}{t n:Nat}{g:Th}{σ0:Hp}{addrs:Sl}{ad:List Int}{l:Sl}{ds:List iP}
theorem gO.push (p:gO σ0 U L H held s0 P Q addrs ad){s':Sl}{x:Int}(e:Ext Q U w)(hr:bW s' 1 (Wx (ad++[x])) w (λb=>Q b\/U.size<=b/\b<w.size))(hl:(ad++[x]).length<=60):gO σ0 w L H held s0 P (λb=>Q b\/U.size<=b/\b<w.size) s' (ad++[x]):=by
 have j:=e.1;have g:=p.e.1;refine⟨Ext.dS p.e e λb a=>.inr (p.pQ b a).1,p.h.bS e (λb a d i=>(p.pQ b i).2.2 d) (λb a=>p.g0.1 b (p.pQ b a).1) (λa=>p.g0.2 (p.pQ _ a).1),p.hi,p.cf,p.pg,λb a=>⟨(p.pP b a).1,by have:=(p.pP b a).2;omega⟩,λb a=>?_,hr,hl,p.g0⟩;rcases a with a|a
 ·exact⟨(p.pQ b a).1,by have:=(p.pQ b a).2.1;omega,(p.pQ b a).2.2⟩
 ·exact⟨O,a.2,λd=>by have:=(p.pP b d).2;omega⟩
theorem IF {tb:List bZ}{size align:Int}{k:Nat}(h:gA tb size align=some k):∃c,tb[k]?=some c/\size<=(c.size:Int)/\(c.size:Int)%align=0:=by
 unfold gA at h;obtain⟨b,a,_⟩:=mQ.1 h;simp only[zE,zS,zV]at a;exact⟨tb[k],cW b,a.1,a.2⟩
theorem FC {tb:List bZ}{size align:Int}(h:size<=16384/\Uc size align=true):size<=(qv tb size align).1/\(qv tb size align).2=0:=by
 unfold qv;rw[zC h];refine⟨?_,rfl⟩;cases hc:gA tb size align with
 | some k=>
  obtain⟨c,a,b,_⟩:=IF hc;simp only;rw[zN,a];exact b
 | none=>simp only;unfold vz;omega
theorem I2 {live:List (Int×Bk)}{x:Int}(b:Bk):bY (dG live x b) x=some b:=by rw[Gm,zC rfl]
end Go.Ar
namespace Go.Ar
open Go Go.Vc Go.Proofs
open Go.Vc (bY dG di)
open Go.Bu (fB VM Gy)
variable {size align:Int}{U σ0 v w w':Hp}{F P Q X T:Rg}{L:dP}{H H' H1:Hw}{held:List Pc}{s0 sp:Sp}{t n:Nat}{g:Th}{gb km fm m:Nat}{x y:Gu}{b:B5}
theorem _root_.Go.Vc.bX.s2 {U:Hp}{b o i j:Nat}{cs:List Value}(hb:bX U b cs){v:Value}(ho:o+i+j<cs.length){K:aP}(hK:∀h',Qg U h' b->bX h' b (cs.set (o+i+j) v)->K h'):eP (Addr.add (Addr.add ⟨b,o,none⟩ i) j) v U K:=by
 rw[add_lit];exact hb.s1 ho hK
def Mg (P:Rg)(gb km fm:Nat):Rg:=λb=>P b\/b=gb\/b=km\/b=fm
def oO (size align:Int):Bool:=decide (1<=size/\size<=1024/\1<=align/\align<=256)&&fB align
def zA (align:Int):Int:=if 16>align then 16 else align
theorem ud {align:Int}(h:align<=256):16<=zA align/\zA align<=256:=by unfold zA;split<;>omega
structure AA (H:Hw) (x:Gu) (size align:Int) (b:B5) (H1:Hw):Prop where
 me:rX H (zA align+ZY size+16) (zA align) H1 b.2.2.1 0
 a:b.1=b.2.2.1+zA align
 s:b.2.1=size
 u:K0 H1 b.2.2.1=some b.2.2.2.1
 n:b.2.2.2.2=x.no+1
 ok:oO size align=true
 bi:jY b
def wB (sp:Sp)(b:B5):Sp:=m8 (m8 sp (ZZ b) lR) (yo b) λ_=>0
def Gu.l0 (x:Gu)(b:B5):Gu:=⟨dG x.kn b.1 b,x.fr,x.no+1⟩
theorem yz {a:Int}(h1:1<=a)(h2:a<=256)(hp:fB a=true):a%8=0\/a<8:=by
 by_cases h:a<8
 ·exact .inr h
 ·left;obtain⟨a,rfl⟩:=zY (show 0<=a by omega);rw[VM]at hp;have key:∀a:Nat,a<=256->8<=a->(a &&& (a-1)=0)->a%8=0:=by decide +kernel
  have:=key a O O (by have:=Gy (a:=a) O O;rw[hp]at this;simpa using this);omega
theorem Fx (hi:HI H1 held s0)(hok:oO size align=true){base:Int}(me:rX H (zA align+ZY size+16) (zA align) H1 base 0):∃u,K0 H1 base=some u/\jY (base+zA align,size,base,u,x.no+1):=by
 unfold oO at hok;rw[zE,zS]at hok;obtain⟨⟨j,r,i,e⟩,kp⟩:=hok;have y:=ud e;have w:=Kw (n:=size) O;rcases me with⟨h,_⟩|⟨_,hm,hok,cl,hl,hcl⟩
 ·exact absurd rfl h
 have g:K0 H1 base=some (qv H.tb (zA align+ZY size+16) (zA align)).1:=by unfold K0;rw[hl,I2];rfl
 have p:=(FC (tb:=H.tb) ⟨hok.2.1,hok.2.2⟩).1;obtain⟨s,d,b⟩:=nT.1 g;have a:=hi.np (V1 d);simp only at a;rw[b]at a;have m:zA align%8=0:=by
  unfold zA;split
  ·decide
  ·rcases yz i e kp with h|h
   ·exact h
   ·omega
 exact⟨_,g,⟨⟨j,r⟩,⟨a.2.1,a.2.2.1⟩,⟨by simp only;omega,by simp only;omega,by simp only;omega⟩,⟨by simp only;omega,a.2.2.2.1⟩,by simp only;omega⟩⟩
set_option maxRecDepth 16000 in
theorem Px (p:GP σ0 U L H held s0 P gb km fm x)(gc:Gc σ0)(x0:0<=x.no/\x.no<=100000)(thread size align:Int){R:Int->Int->Hp->Prop}
 (h0:∀w,oO size align=false->bK U w->R 0 1 w)
 (h1:∀e w ts H' held' s0' P',oO size align=true->e≠0->Hk H thread 0 (zA align+ZY size+16) (zA align) 0 H' 0 e->ie H H'->H'.live=H.live->Ext P U w->GP σ0 w {L with ts:=ts} H' held' s0' P' gb km fm x->(∀c,P' c->P c\/U.size<=c)->R 0 e w)
 (h2:∀b w ts H1 held' s0' P',AA H x size align b H1->Hk H thread 0 (zA align+ZY size+16) (zA align) 0 H1 b.2.2.1 0->ie H H1->Ext (Mg P gb km fm) U w->GP σ0 w {L with ts:=ts} {H1 with sp:=wB H1.sp b} held' s0' P' gb km fm (x.l0 b)->(∀c,P' c->P c\/U.size<=c)->R b.1 0 w) :
 WM.c (aW gb) thread size align U R:=by
 refine WM.o ?_;unfold WM.v;rw[show(if(16:Int)>align then(16:Int)else align)=zA align from rfl]
 refine nw (cs:=[.pointer (some ⟨gb,0,none⟩)]) λv hz e hn4=>hn4.oQ rfl (HF (p.fr e) (cE rfl ?_));refine KB (λr u=>u=v/\r = !decide (1<=size/\size<=1024)) (λr u ⟨hu,hr⟩=>?_) λJ hJ=>cR (λh=>hJ _ _ ⟨rfl,by rw[zM O];rfl⟩) λh=>hJ _ _ ⟨rfl,?_⟩
 ·rw[hu];refine KB (λr u=>u=v/\r = !decide (1<=size/\size<=1024/\1<=align)) (λr1 u1 ⟨hu1,hr1⟩=>?_) λJ1 hJ1=>?_
  ·rw[hu1];refine KB (λr u=>u=v/\r = !decide (1<=size/\size<=1024/\1<=align/\align<=256)) (λr2 u2 ⟨hu2,hr2⟩=>?_) λJ2 hJ2=>?_
   ·rw[hu2];refine KB (λr u=>u=v/\r = !oO size align) (λr3 u3 ⟨hu3,hr3⟩=>?_) λJ3 hJ3=>?_
    ·rw[hu3];clear hr hr1 hr2 hu hu1 hu2 hu3;by_cases hgk:oO size align=true
     ·refine cE (by rw[hr3,hgk];rfl) ?_;have hk:=hgk;unfold oO at hk;rw[zE,zS]at hk;obtain⟨⟨k1,k2,k3,k4⟩,kp⟩:=hk;have hzz:=ud k4;have hww:=Kw (n:=size) O;refine nw (cs:=[.int .i64 0,.int .i64 0,.int .i64 0,.int .i64 0,.int .i64 0]) λv6 hz6 e6 b6=>?_;refine b6.s1 aA λv7 o7 b7=>b7.s1 aA λv8 o8 b8=>b8.s1 aA λv9 o9 b9=>b9.s1 aA λv10 gG b10=>b10.s1 aA λv11 o11 b11=>?_;have bb:bX v11 v.size (fE (0,size,0,0,0)):=b11;have eo:Ext (· = v.size) v6 v11:=(((o7.ext.trans o8.ext).trans o9.ext).trans gG.ext).trans o11.ext;have e11:bK v v11:=Ext.fresh e6 eo λi (hi:i=v.size)=>by omega
      have p11:=(p.fr e).fr e11;have S:=e11.bU hn4 id;have zv:U.size<v.size:=by omega
      have zb:=bb.lt;refine⟨λm=>bX m U.size [.pointer (some ⟨gb,0,none⟩)]/\bX m gb (qp L.p km fm x)/\bX m v.size (fE (0,size,0,0,0)),⟨S,p11.b,bb⟩,?_⟩;refine ri (c:=.p) (y:=some ⟨gb,0,none⟩) (λm F=>F.1) rfl (aG (jq (c:=.p) (y:=some ⟨L.p,0,none⟩) (λm F=>F.2.1) rfl ?_));refine jq (c:=bN) (y:=0) (λm F=>F.2.2) rfl (jq (c:=bN) (y:=size) (λm F=>F.2.2) rfl (jq (c:=bN) (y:=0) (λm F=>F.2.2) rfl (jq (c:=bN) (y:=0) (λm F=>F.2.2) rfl (jq (c:=bN) (y:=0) (λm F=>F.2.2) rfl ?_))));refine UJ (0,size,0,0,0) aC aC λv12 B=>⟨⟨B.bU S id,B.bU p11.b id,B.bU bb id⟩,?_⟩;refine ar aC aC (ar aC aC ?_);have p12:=p11.fr B;have e012:=(e.trans e11).trans B;have z1112:=B.1;obtain⟨H',a,er,hw,o,me⟩:=Mm p.hi thread (zA align+ZY size+16) (zA align);obtain⟨held',s0',hi'⟩:=o.hi;refine FF AL p12.h p12.cf.2.2 hw λv13 ts K h13=>?_;have A:=p12.step K h13 hi' o.kp;have z12:=e012.1;have z13:=K.1;have nP:∀c,U.size<=c->¬P c:=λc h1 h2=>by have:=(p.pP c h2).2;omega
      have N:=K.bU (B.bU S id) (nP _ (zD _));have bb13:=K.bU (B.bU bb id) (nP _ O);refine⟨⟨N,K.bU p12.b p.pY.2,bb13⟩,?_⟩;generalize hP1:Cut (Grow P v12) v13=P1 at A;have E:∀c,P1 c->P c\/U.size<=c:=λc d=>by
       rw[←hP1]at d;exact d.1.imp id λh=>by omega
      have Q:∀c,P1 c->c<v13.size:=λc d=>by rw[←hP1]at d;exact d.2
      have G:∀c,c<v12.size->¬P c->¬P1 c:=λc h1 h2 D=>by
       rw[←hP1]at D;rcases D.1 with h4|h4
       ·exact h2 h4
       ·omega
      have E13:Ext P U v13:=(bK.to e012).trans K;refine cY (λhne=>?_) λheq=>?_
      ·have hne':er≠0:=by simpa using hne
       rcases me with⟨_,ha,hl⟩|⟨h,_⟩
       ·subst ha;exact h1 er v13 ts H' held' s0' P1 hgk hne' hw o hl E13 A E
       ·exact absurd h hne'
      ·have he0:er=0:=by simpa using heq
       subst he0;obtain⟨u,hu,bi⟩:=Fx (x:=x) (size:=size) (align:=align) hi' hgk me;obtain⟨b,g⟩:∃b:B5,b=(a+zA align,size,a,u,x.no+1):=⟨_,rfl⟩;rw[←g]at bi;have hbs:=bi.base;have hbm:=bi.m;have hbz:=bi.z;have hbt:=bi.t;have hb1:b.1=a+zA align:=by rw[g]
       have hb2:b.2.1=size:=by rw[g]
       rw[hb2]at hbt;have M:b.2.2.1=a:=by rw[g]
       have hb4:b.2.2.2.1=u:=by rw[g]
       rw[M]at hbs;have gr:AA H x size align b H':=⟨by rw[M];exact me,by rw[hb1,M],by rw[g],by rw[M,hb4];exact hu,by rw[g],hgk,bi⟩;have hgb13:=A.b.lt;have hvg:v.size≠gb:=λh=>by have:=p.b.lt;omega
       have hsg:U.size≠gb:=λh=>by have:=p.b.lt;omega
       have hvk:v.size≠km:=λh=>by have:=p.m.lt;omega
       have hsk:U.size≠km:=λh=>by have:=p.m.lt;omega
       have hvf:v.size≠fm:=λh=>by have:=p.f.lt;omega
       refine N.oQ rfl (aG (A.b.rI rfl (ar O O (aG (A.b.s1 (by simp[qp]) λW C b14=>?_)))));have p14:GP σ0 W {L with ts:=ts} H' held' s0' P1 gb km fm {x with no:=x.no+1}:=A.fH (C.ext.sub λc d=>.inl d) b14 (C.ext.fK A.m λ(h:km=gb)=>p.n1 h.symm) (C.ext.fK A.f λ(h:fm=gb)=>p.n2 h.symm);have hn14:=C.ext.bU N hsg;have bb14:=C.ext.bU bb13 hvg;refine hn14.oQ rfl (aG (p14.b.rI rfl (ar O O ?_)));refine bb14.s1 (by simp[fE]) λv15 o15 b15=>b15.s2 (by simp[fE]) λv16 o16 b16=>b16.s2 (by simp[fE]) λv17 o17 b17=>?_;have e17:Ext (· = v.size) W v17:=(o15.ext.trans o16.ext).trans o17.ext;have hout:∀c,c<W.size->c=v.size->¬P1 c/\c≠gb/\c≠km/\c≠fm/\σ0.size<=c:=λc _ d=>by
        subst d;have:=p.e.1;exact⟨G _ O (nP _ O),hvg,hvk,hvf,O⟩
       have p17:=p14.out e17 hout;have hn17:=e17.bU hn14 (show ¬U.size=v.size by omega);refine hn17.oQ rfl (aG (p17.b.rP rfl (Gj p17.h a λv18 X=>?_)));rw[hu];refine(X.bU b17 id).s2 (by simp[fE]) λv19 o19 b19=>?_;have j:bX v19 v.size (fE b):=by rw[g];exact b19
       have p18:=p17.fr X;have z17:=o17.1;have z16:=o16.1;have z15:=o15.1;have z14:=C.1;have z18:=X.1;have z19:=o19.1;have p19:=p18.out o19.ext λc hc1 (d:c=v.size)=>by
        subst d;have:=p.e.1;exact⟨G _ O (nP _ O),hvg,hvk,hvf,O⟩
       have hn19:=o19.ext.bU (X.bU hn17 id) (show ¬U.size=v.size by omega);have E19:Ext (Mg P gb km fm) U v19:=by
        refine Ext.dS (((((E13.sub λc d=>.inl d).trans (C.ext.sub λc d=>.inr (.inl d))))):Ext (Mg P gb km fm) U W) (((e17.trans (bK.to X)).trans o19.ext):Ext (· = v.size) W v19) λc (d:c=v.size)=>.inr O
       refine j.rI rfl (j.rI rfl (j.rI rfl (j.rI rfl (j.rI rfl (AN b λv20 hz20 V b20=>?_)))));have p20:=p19.fr V;have hn20:=V.bU hn19 id;have bb20:=V.bU j id;have z20:=V.1;have E20:Ext (Mg P gb km fm) U v20:=E19.jx V;refine⟨rfl,by kernel_rfl,ZZ b,_,λk s=>Ext (Mg P gb km fm) U s/\v20.size<=s.size/\bX s U.size [.pointer (some ⟨gb,0,none⟩)]/\bX s v.size (fE b)/\bX s v19.size (fE b)/\∃(s0':Sp) (P':Rg),GP σ0 s {L with ts:=ts} {H' with sp:=m8 H'.sp ((ZZ b).take k) lR} held' s0' P' gb km fm {x with no:=x.no+1}/\∀c,P' c->P1 c\/v20.size+2<=c,AY bi,?_,λk s h=>h.2.2.2.2.1,?_,?_,?_⟩
       ·rintro k s s' ⟨i1,i2,i3,Y,i5,s1',P',i6,Z⟩ es;have zs:=es.1;have nn:∀c,c<v20.size->¬(c=v20.size\/c=v20.size+1):=λc h=>by omega
        refine⟨Ext.dS i1 es λc d=>.inr O,O,es.bU i3 (nn _ O),es.bU Y (nn _ O),es.bU i5 (nn _ O),s1',P',i6.out es λc _ d=>?_,Z⟩;have:=p.e.1;have g1:=p.b.lt;have g2:=p.m.lt;have g3:=p.f.lt;refine⟨λhx=>?_,O,O,O,O⟩;rcases Z c hx with h|h
        ·have:=Q c h;omega
        ·omega
       ·exact⟨E20,zD _,hn20,bb20,b20,s0',P1,p20,λc d=>.inl d⟩
       ·rintro k (z:Int) hk s ⟨i1,i2,i3,Y,i5,s1',P',i6,Z⟩ hsz;have zi:=Ba bi (zG hk);have hzk:0<=z/\z<=1000000:=by
         have z1:=zi.1;have z2:=zi.2.2.1;have h0:=bi.base.1;omega
        have htk:(ZZ b).take (k+1)=(ZZ b).take k++[z]:=by rw[lj,hk];rfl
        have n7:∀c,c<v20.size+2->(¬P1 c)->¬P' c:=λc h1 h2 D=>(Z c D).elim h2 λh=>by omega
        have q1:¬P1 U.size:=G _ O (nP _ (zD _));have q2:¬P1 v.size:=G _ O (nP _ O);have q3:∀c,v13.size<=c->¬P1 c:=λc h1 h2=>by have:=Q c h2;omega
        refine⟨λm=>bX m U.size [.pointer (some ⟨gb,0,none⟩)]/\bX m gb (qp L.p km fm {x with no:=x.no+1}),⟨i3,i6.b⟩,ri (c:=.p) (y:=some ⟨gb,0,none⟩) (λm h=>h.1) rfl (aG (jq (c:=.p) (y:=some ⟨L.p,0,none⟩) (λm h=>h.2) rfl ?_))⟩;refine D6 z hzk.1 hzk.2 ⟨⟨i3,i6.b⟩,?_⟩;refine i6.write gc z (lR z) O λs2 s2' P2 e2 p2 hP2=>?_;have zs2:=e2.1;have i3':=e2.bU i3 (n7 _ O q1);refine⟨⟨i3',p2.b⟩,⟨Ext.dS i1 e2 λc d=>?_,O,i3',e2.bU Y (n7 _ O q2),e2.bU i5 (n7 _ O (q3 _ O)),s2',P2,?_,λc d=>?_⟩,e2.2 _ O (n7 _ O (q3 _ O)),e2.2 _ O (n7 _ O (q3 _ O))⟩
        ·rcases Z c d with h|h
         ·exact(E c h).imp .inl id
         ·exact .inr O
        ·rw[htk,CR];exact p2
        ·rcases hP2 c d with h|h
         ·exact Z c h
         ·exact .inr O
       ·rintro s ⟨i1,i2,i3,Y,i5,s1',P',i6,Z⟩ hD;rw[mX]at i6;have n7:∀c,c<v20.size+2->(¬P1 c)->¬P' c:=λc h1 h2 D=>(Z c D).elim h2 λh=>by omega
        have q1:¬P1 U.size:=G _ O (nP _ (zD _));have q2:¬P1 v.size:=G _ O (nP _ O);have q3:∀c,v13.size<=c->¬P1 c:=λc h1 h2=>by have:=Q c h2;omega
        refine i3.oQ rfl (Y.rI rfl (Y.rI rfl (Y.rI rfl (Y.rI rfl (Y.rI rfl (CP i6 gc bi 0 λs2 s2' P2 e2 p2 hP2=>?_))))));have zs2:=e2.1;have hlt:=(zy.1 hD).1;have i3':=e2.bU i3 (n7 _ O q1);have i4':=e2.bU Y (n7 _ O q2);have hS:∀m,(bX m U.size [.pointer (some ⟨gb,0,none⟩)]/\bX m gb (qp L.p km fm {x with no:=x.no+1})/\bX m v.size (fE b))->bX m v.size (fE b):=λm h=>h.2.2;refine⟨λm=>bX m U.size [.pointer (some ⟨gb,0,none⟩)]/\bX m gb (qp L.p km fm {x with no:=x.no+1})/\bX m v.size (fE b),⟨i3',p2.b,i4'⟩,ri (c:=.p) (y:=some ⟨gb,0,none⟩) (λm h=>h.1) rfl (aG (jq (c:=.m) (y:=some km) (λm h=>h.2.1) rfl ?_))⟩;refine n0 (c:=bN) (y:=b.1) hS rfl (jq (c:=bN) (y:=b.1) hS rfl (jq (c:=bN) (y:=b.2.1) hS rfl (jq (c:=bN) (y:=b.2.2.1) hS rfl (jq (c:=bN) (y:=b.2.2.2.1) hS rfl (jq (c:=bN) (y:=b.2.2.2.2) hS rfl ⟨km,x.kn,rfl,p2.m,λs3 o3 m3=>?_⟩)))));have p3:GP σ0 s3 {L with ts:=ts} {H' with sp:=wB H'.sp b} held' s2' P2 gb km fm (x.l0 b):=p2.fH (y:=x.l0 b) (o3.ext.sub λc d=>.inr (.inl d)) (o3.ext.bU p2.b p.n1) m3 (o3.ext.fK p2.f λ(h:fm=km)=>p.n3 h.symm);have zs3:=o3.1;have hkm:=p.m.lt;have hfm:=p.f.lt;have hgb:=p.b.lt;have hD3:s3[v20.size]?=some (.deferred (some [])):=(o3.2 _ O).trans ((e2.2 _ hlt (n7 _ O (q3 _ O))).trans hD);refine(o3.ext.bU i4' hvk).fR rfl (Cb hD3 λs4 e4=>?_);have hP2':∀c,P2 c->P c\/U.size<=c:=λc d=>by
         rcases hP2 c d with h|h
         ·rcases Z c h with h|h
          ·exact E c h
          ·exact .inr O
         ·exact .inr O
        refine h2 b s4 ts H' held' s2' P2 gr (by rw[M];exact hw) o ?_ (p3.out e4 λc _ (d:c=v20.size)=>?_) hP2'
        ·have E1:Ext (Mg P gb km fm) U s2:=Ext.dS i1 e2 λc d=>by
          rcases Z c d with h|h
          ·exact(E c h).imp .inl id
          ·exact .inr O
         have E2:Ext (Mg P gb km fm) U s3:=E1.trans (o3.ext.sub λc d=>.inr (.inr (.inl d)));exact Ext.dS E2 e4 λc (d:c=v20.size)=>.inr O
        ·subst d;have:=p.e.1;refine⟨λhx=>?_,O,O,O,O⟩;rcases hP2 _ hx with h|h
         ·exact n7 _ O (q3 _ O) h
         ·omega
     ·exact cB (by rw[hr3];simp[hgk]) (h0 v (by simpa using hgk) e)
    ·by_cases g:1<=size/\size<=1024/\1<=align/\align<=256
     ·refine cE (by rw[hr2,zK g];rfl) (ar O O (hJ3 _ _ ⟨rfl,?_⟩));rw[Oo g.2.2.1 g.2.2.2];unfold oO;rw[zK g];rfl
     ·refine cB (by rw[hr2,zM g];rfl) (hJ3 _ _ ⟨rfl,?_⟩);unfold oO;rw[zM g];rfl
   ·by_cases g:1<=size/\size<=1024/\1<=align
    ·refine cE (by rw[hr1,zK g];rfl) (hJ2 _ _ ⟨rfl,?_⟩);by_cases D:align>256
     ·rw[zK D,zM O];rfl
     ·rw[zM D,zK O];rfl
    ·exact cB (by rw[hr1,zM g];rfl) (hJ2 _ _ ⟨rfl,by rw[zM O];rfl⟩)
  ·by_cases g:1<=size/\size<=1024
   ·refine cE (by rw[hr,zK g];rfl) (hJ1 _ _ ⟨rfl,?_⟩);by_cases D:align<1
    ·rw[zK D,zM O];rfl
    ·rw[zM D,zK O];rfl
   ·exact cB (by rw[hr,zM g];rfl) (hJ1 _ _ ⟨rfl,by rw[zM O];rfl⟩)
 ·by_cases D:size>1024
  ·rw[zK D,zM O];rfl
  ·rw[zM D,zK O];rfl
end Go.Ar
namespace Go.Ar
open Go Go.Vc Go.Proofs Go.RowKit Go.Sort Go.Shelf Go.Lib
variable {U:Hp}{F Q:Rg}{s:Sl}{xs:List Int}
end Go.Ar
namespace Go.Ar
open Go Go.Vc Go.Proofs
open Go.Vc (bY dG di)
variable {size align:Int}{U σ0 v w w':Hp}{F P Q X T:Rg}{L:dP}{H H' H1:Hw}{held:List Pc}{s0 sp:Sp}{t n:Nat}{g:Th}{gb km fm m:Nat}{x y:Gu}{b:B5}
def MV:Int:=-1234567
def nc (H:Hw)(x:Gu)(thread addr:Int)(whole:Bool):Int:=
 if KM H thread≠0 then KM H thread else match bY x.kn addr with
 | none=>if(bY x.fr addr).getD false then 9 else 8
 | some b=>if GK H b then 5 else if whole&&decide (0<(U3 H.sp b).length)then 10 else 0
def Gu.gone (x:Gu)(addr:Int):Gu:=⟨di x.kn addr,dG x.fr addr true,x.no⟩
def mE (H:Hw)(b:B5):Hw:={H with sp:=m8 H.sp (yo b) λ_=>MV}
set_option maxRecDepth 16000 in
theorem yO (p:GP σ0 U L H held s0 P gb km fm x)(gc:Gc σ0)(xi:∀e∈x.kn,e.1=e.2.1/\jY e.2)(thread addr:Int)(whole:Bool){R:aN}
 (h0:∀w,nc H x thread addr whole≠0->bK U w->R (nc H x thread addr whole) w)
 (h1:∀b w ts H1 held' s0' P' e,bY x.kn addr=some b->nc H x thread addr whole=0->Hk (mE H b) thread 1 0 0 b.2.2.1 H1 0 e->ie (mE H b) H1->rQ (mE H b) thread b.2.2.1 H1 e->Ext (Mg P gb km fm) U w->GP σ0 w {L with ts:=ts} H1 held' s0' P' gb km fm (x.gone addr)->(∀c,P' c->P c\/U.size<=c)->R 0 w) :
 WS.c (aW gb) thread addr whole U R:=by
 refine WS.o ?_;unfold WS.v;refine HF p (cE rfl (IW p thread λC e1=>?_));have p1:=p.fr e1;refine cY (λhne=>?_) λheq=>?_
 ·have hn:KM H thread≠0:=by simpa using hne
  have he:nc H x thread addr whole=KM H thread:=by unfold nc;rw[zC hn]
  have:=h0 C (by rw[he];exact hn) e1;rw[he]at this;exact this
 have hrd:KM H thread=0:=by simpa using heq
 have a:nc H x thread addr whole=match bY x.kn addr with
  | none=>if(bY x.fr addr).getD false then 9 else 8
  | some b=>if GK H b then 5 else if whole&&decide (0<(U3 H.sp b).length)then 10 else 0:=by
  unfold nc;rw[zB (by rw[hrd];decide)]
 refine aG (p1.b.rM rfl ⟨x.kn,p1.m,?_⟩);refine nw (cs:=[.int .i64 0,.int .i64 0,.int .i64 0,.int .i64 0,.int .i64 0]) λv2 hz2 e2 b2=>b2.s1 aA λv3 o3 b3=>b3.s1 aA λv4 o4 b4=>b4.s1 aA λv5 o5 b5=>b5.s1 aA λv6 o6 b6=>b6.s1 aA λv7 o7 b7=>?_;have eo:Ext (· = C.size) v2 v7:=(((o3.ext.trans o4.ext).trans o5.ext).trans o6.ext).trans o7.ext;have e17:bK C v7:=Ext.fresh e2 eo λi (hi:i=C.size)=>by omega
 have E:=e1.trans e17;have p7:=p.fr E;have d:bX v7 C.size (fE ((bY x.kn addr).getD (0,0,0,0,0))):=b7;cases hk:bY x.kn addr with
 | none=>
  rw[hk]at a;simp only at a;refine KB (λr u=>u=v7/\r=(bY x.fr addr).getD false) (λr u ⟨hu,G⟩=>?_) λJ N=>cB rfl (aG (p7.b.rM rfl ⟨x.fr,p7.f,N _ _ ⟨rfl,rfl⟩⟩));rw[hu];refine cY (λh=>?_) λh=>cB rfl ?_
  ·rw[←G,h]at a;have:=h0 v7 (by rw[a];decide) E;rw[a]at this;exact this
  ·rw[←G,h]at a;have:=h0 v7 (by rw[a];decide) E;rw[a]at this;exact this
 | some b=>
  rw[hk]at a d;simp only at a;have d:bX v7 C.size (fE b):=d;have K:jY b:=(xi _ (V1 hk)).2;refine KB (λr u=>u=v7/\r=false) (λr u ⟨hu,G⟩=>?_) λJ N=>cE rfl (N _ _ ⟨rfl,rfl⟩);rw[hu];refine cE G (cE rfl (d.rI rfl (d.rI rfl (d.rI rfl (d.rI rfl (d.rI rfl (HE p7 b λv9 e9=>?_)))))));have D:=E.trans e9;have p9:=p.fr D;have j:=e9.bU d id;refine cY (λhl=>?_) λhl=>?_
  ·rw[zC hl]at a;have:=h0 v9 (by rw[a];decide) D;rw[a]at this;exact this
  rw[zB (by rw[hl];decide)]at a;refine KB (λr u=>bK U u/\bX u C.size (fE b)/\r=(whole&&decide (0<(U3 H.sp b).length))) (λr u ⟨F,B,G⟩=>?_) λJ N=>cY (λM=>?_) λM=>N _ _ ⟨D,j,by rw[M];rfl⟩
  ·refine cY (λh=>?_) λh=>?_
   ·rw[←G,zC h]at a;have:=h0 u (by rw[a];decide) F;rw[a]at this;exact this
   ·rw[←G,zB (by rw[h];decide)]at a;have pu:=p.fr F;have zu:=F.1;have z1:=e1.1;refine B.rI rfl (B.rI rfl (B.rI rfl (B.rI rfl (B.rI rfl (CP pu gc K (-1234567) λu1 V P1 ef X S=>?_)))));have nP:¬P C.size:=λhx=>by have:=(p.pP _ hx).2;omega
    have Z:=ef.bU B nP;have zf:=ef.1;refine aG (X.b.rM rfl ⟨x.kn,X.m,λu2 o2 _ m2=>?_⟩);have o2:=o2 km rfl;have W:GP σ0 u2 L (mE H b) held V P1 gb km fm ⟨di x.kn addr,x.fr,x.no⟩:=X.fH (y:=⟨di x.kn addr,x.fr,x.no⟩) (o2.ext.sub λc g=>.inr (.inl g)) (o2.ext.bU X.b p.n1) m2 (o2.ext.fK X.f λ(h:fm=km)=>p.n3 h.symm);refine aG (W.b.rM rfl ⟨fm,x.fr,rfl,W.f,λu3 A m3=>?_⟩);have Y:GP σ0 u3 L (mE H b) held V P1 gb km fm (x.gone addr):=W.fH (y:=x.gone addr) (A.ext.sub λc g=>.inr (.inr g)) (A.ext.bU W.b p.n2) (A.ext.fK W.m p.n3) m3;have hkm:=p.m.lt;have hfm:=p.f.lt;have aa:=A.ext.bU (o2.ext.bU Z (show ¬C.size=km by omega)) (show ¬C.size=fm by omega);obtain⟨H',er,M,o,fe⟩:=Fg Y.hi thread b.2.2.1 (by have:=K.base;have:=K.m;have:=K.t;have:=K.z;have:=K.s;have:=Kw (n:=b.2.1) O;unfold iu;omega);obtain⟨held',s0',ab⟩:=o.hi;refine aG (Y.b.rP rfl (aa.fR rfl (ED AL Y.h Y.cf.2.2 M λu4 ts e4 h4=>?_)));have p5:=Y.step e4 h4 ab o.kp;have z2:=o2.1;have z3:=A.1;have z4:=e4.1;refine h1 b u4 ts H' held' s0' _ er hk a M o fe ?_ p5 λc g=>?_
    ·have E1:Ext (Mg P gb km fm) U u1:=(bK.to F).trans (ef.sub λc g=>.inl g);have E3:Ext (Mg P gb km fm) U u3:=(E1.trans (o2.ext.sub λc g=>.inr (.inr (.inl g)))).trans (A.ext.sub λc g=>.inr (.inr (.inr g)));exact Ext.dS E3 e4 λc g=>(S c g).imp .inl λh=>by omega
    ·rcases g.1 with g|g
     ·exact(S c g).imp id λh=>by omega
     ·exact .inr O
  ·refine j.rI rfl (j.rI rfl (j.rI rfl (j.rI rfl (j.rI rfl (Bz p9 K λs u Q F hs hQ=>N _ _ ⟨D.trans F,F.bU j id,?_⟩)))));have:s.len=(U3 H.sp b).length:=by have:=hs.1;simp[Wx]at this;omega
   rw[M,this,oP,mq,decide_eq_true_iff,decide_eq_true_iff];omega
def xQ (H:Hw)(x:Gu)(addr:Int):Int:=match bY x.kn addr with
 | none=>8
 | some b=>if GK H b then 5 else 0
def ym (H:Hw)(x:Gu)(addr:Int):List Int:=match bY x.kn addr with
 | none=>[]
 | some b=>if GK H b then[]else U3 H.sp b
set_option maxRecDepth 16000 in
theorem JH (p:GP σ0 U L H held s0 P gb km fm x)(xi:∀e∈x.kn,e.1=e.2.1/\jY e.2)(addr:Int){R:Sl->Int->Hp->Prop}
 (hR:∀s w Q,bK U w->bW s 1 (Wx (ym H x addr)) w Q->(∀c,Q c->U.size<=c/\c<w.size)->R s (xQ H x addr) w):W3.c (aW gb) addr U R:=by
 refine W3.o ?_;unfold W3.v;refine HF p (cE rfl (aG (p.b.rM rfl ⟨x.kn,p.m,?_⟩)));refine nw (cs:=[.int .i64 0,.int .i64 0,.int .i64 0,.int .i64 0,.int .i64 0]) λD C e2 S=>S.s1 aA λv3 o3 J=>J.s1 aA λv4 o4 V=>V.s1 aA λv5 o5 z=>z.s1 aA λZ o6 N=>N.s1 aA λv7 o7 X=>?_;have A:Ext (· = U.size) D v7:=(((o3.ext.trans o4.ext).trans o5.ext).trans o6.ext).trans o7.ext;have j:bK U v7:=Ext.fresh e2 A λi (hi:i=U.size)=>by omega
 have E:=p.fr j;have a:bX v7 U.size (fE ((bY x.kn addr).getD (0,0,0,0,0))):=X;have nil:∀w,bW ⟨none,0,0⟩ 1 (Wx []) w (λ_=>False):=λw=>⟨rfl,.inl ⟨rfl,rfl⟩⟩;unfold xQ ym at hR;cases hk:bY x.kn addr with
 | none=>
  rw[hk]at hR;exact cB rfl (hR _ v7 _ j (nil _) λc h=>h.elim)
 | some b=>
  rw[hk]at a hR;simp only at hR;have a:bX v7 U.size (fE b):=a;have G:jY b:=(xi _ (V1 hk)).2;refine cE rfl (a.rI rfl (a.rI rfl (a.rI rfl (a.rI rfl (a.rI rfl (HE E b λY y=>?_))))));have g:=j.trans y;have F:=p.fr g;have d:=y.bU a id;refine cY (λr=>?_) λr=>?_
  ·rw[r]at hR;exact hR _ Y _ g (nil _) λc h=>h.elim
  ·rw[r]at hR;refine d.rI rfl (d.rI rfl (d.rI rfl (d.rI rfl (d.rI rfl (Bz F G λs u Q B K W=>?_)))));have:=g.1;exact hR s u Q (g.trans B) K λc M=>by have:=W c M;omega
end Go.Ar
namespace Go.Proofs
open Go.Shelf
end Go.Proofs
namespace Go.Ar
open Go Go.Vc Go.Proofs Go.RowKit Go.Maps Go.Sort Go.Shelf
open Go.Vc (bY dG di)
open Go.Bu (mM Ab U7 xL Up)
variable {U w w':Hp}{F P Q X S:Rg}{L:dP}{H H':Hw}{held:List Pc}{s0 sp:Sp}{t n:Nat}{g:Th}{σ0:Hp}
end Go.Ar
namespace Go.Proofs
open Go.Shelf
end Go.Proofs
namespace Go.Proofs
open Go.Vc
set_option maxRecDepth 100000
def XD.h:Hn:=.q .o1 (.q (.q .o5 .aK) (.q (.q .o1 (.k (.loop [(5,.I)] (.q (.q .o4 (.c .l .l)) (.q (.k (.q (.oq 9) .aK)) .o3))))) .aM))
def XD.v (a b:Sl)(c:Hp)(d:aO):Prop:=If (((a.len:Nat):Int) != ((b.len:Nat):Int)) (d false c) (YC [bN] (λe=>e 0 c) λf (g:Int) h=>If (g<((a.len:Nat):Int)) (Ix a.a a.len g 1 λi=>bM i h λj=>Ix b.a b.len g 1 λk=>bM k h λl=>If (j != l) (d false h) (bL (g+1) λm=>f m h)) (d true h))
theorem XD.o {a b c d}(e:XD.v a b c d):XD.c a b c d:=Wa Tryz.func30 (x:=XD.h) (R0 e)
end Go.Proofs
namespace Go.Ar
open Go Go.Vc Go.Proofs Go.RowKit Go.Maps Go.Sort Go.Shelf
open Go.Vc (bY dG di)
open Go.Bu (mM Ab U7 xL Up)
variable {size align:Int}{U σ0 v w w':Hp}{F P Q X T:Rg}{L:dP}{H H' H1:Hw}{held:List Pc}{s0 sp:Sp}{t n:Nat}{g:Th}{gb km fm m:Nat}{x y:Gu}{b:B5}
theorem Aq {k:IntKind}{c:CK}{l:List (Int×c.T)}{r:Nat}{a a':CK}{x0:a.T}{y0:a'.T}{A:a.T->a'.T->Hp->Prop}{body:Int->c.T->a.T->a'.T->Hp->(a.T->a'.T->Hp->Prop)->Prop}(hm:dI U r k c l)(I:List (Int×c.T)->a.T->a'.T->Hp->Prop)
 (h0:∀v,v.size=U.size+1->bK U v->I l x0 y0 v)
 (hend:∀z y v,I [] z y v->A z y v)
 (hstep:∀todo n x z y v v' (J:a.T->a'.T->Hp->Prop),I todo z y v->(n,x)∈todo->Qg v v' U.size->U.size<v.size->(∀z' y' w,w[U.size]?=v'[U.size]?->w[r]?=v'[r]?->I (todo.filter λy=>!(y.1==n)) z' y' w->J z' y' w)->body n x z y v' J) :
 mW k c (some r) U λit v3=>YC [a,a'] (λI=>I x0 y0 v3) λJ1 z y v4=>mV k c it v4 (A z y v4) λ_ _ v5=>mT k c it v5 λkey1 val1=>body key1 val1 z y v5 J1:=by
 refine⟨l,hm,λv P N Q=>?_⟩;have M:bK U v:=⟨O,λb B _=>N b B⟩;refine HD (a:=a) (bb:=a') (λz y w=>∃todo e,It w U.size k c (some r) l todo e/\I todo z y w/\U.size<w.size) (λ_ _ w=>ui w U.size r) ⟨l,none,Q,h0 v P M,O⟩ ?_;rintro z y w ⟨todo,e,i,E,m⟩;refine⟨rfl,some r,l,todo,e,i,λF=>?_,λn x D G L g=>?_⟩
 ·subst F;exact hend z y w E
 ·refine⟨rfl,some r,l,_,n,x,g,hstep todo n x z y w G _ E D L m λz' y' u j s p=>?_⟩;have d:=g.bS j s;refine⟨⟨_,_,d,p,?_⟩,?_⟩
  ·obtain⟨R,K,C,H,_⟩:=d;exact(zy.1 H).1
  ·rw[d.num,i.num];exact yE.2 ⟨(n,x),D,by simp⟩
def lh (ofV:B5->Int)(addr:Int)(b:B5):Prop:=b.1<=addr/\addr<b.1+ofV b
instance (ofV:B5->Int) (addr:Int) (b:B5):Decidable (lh ofV addr b):=by unfold lh;infer_instance
set_option maxRecDepth 16000 in
theorem L1 (p:GP σ0 U L H held s0 P gb km fm x)(xi:∀e∈x.kn,e.1=e.2.1/\jY e.2)(addr:Int){ofv:Fv}{ofV:B5->Int}(hov:∀b,jY b->0<=ofV b/\ofV b<=100000)
 (hof:∀(b:B5) (u:Hp) (K:aN),jY b->(∀u',bK u u'->K (ofV b) u')->VE Tryz.prog ofv [.agg #[.int .i64 b.1,.int .i64 b.2.1,.int .i64 b.2.2.1,.int .i64 b.2.2.2.1,.int .i64 b.2.2.2.2]] [.one bN] u K)
 {R:Int->Int->Int->Int->Int->Bool->Hp->Prop}
 (h0:∀(b:B5) w,bK U w->(∀e∈x.kn,¬lh ofV addr e.2)->R b.1 b.2.1 b.2.2.1 b.2.2.2.1 b.2.2.2.2 false w)
 (h1:∀e w,bK U w->e∈x.kn->lh ofV addr e.2->R e.2.1 e.2.2.1 e.2.2.2.1 e.2.2.2.2.1 e.2.2.2.2.2 true w) :
 YL.c (aW gb) addr ofv U R:=by
 refine YL.o ?_;unfold YL.v;refine nw (cs:=fE (0,0,0,0,0)) λv hz e b6=>nw (cs:=fE (0,0,0,0,0)) λv1 hz1 e1 b8=>?_;have e01:=e.trans e1;have p1:=p.fr e01;refine aG (p1.b.rM rfl ?_);refine Aq (a:=.b) (a':=.b) p1.m (λj (d E:Bool) u=>bK U u/\v1.size<u.size/\bX u U.size (fE (0,0,0,0,0))/\(∀e∈j,e∈x.kn)/\∃iy:B5,bX u v.size (fE iy)/\(d=false->∀e∈x.kn,e∈j\/¬lh ofV addr e.2)/\(d=true->∃e∈x.kn,e.2=iy/\lh ofV addr e.2))
  (λu hu Y=>⟨e01.trans Y,O,Y.bU (e1.bU b6 id) id,λe F=>F,(0,0,0,0,0),Y.bU b8 id,λ_ e F=>.inl F,λh=>by cases h⟩) ?_ ?_
 ·rintro(d:Bool) (E:Bool) u ⟨Y,hlt,hb6,_,iy,C,ab,hf1⟩;refine C.rI rfl (C.rI rfl (C.rI rfl (C.rI rfl (C.rI rfl ?_))));refine hb6.s1 (by simp[fE]) λv3 o3 b3=>b3.s1 (by simp[fE]) λv4 o4 b4=>b4.s1 (by simp[fE]) λv5 o5 b5=>b5.s1 (by simp[fE]) λv6 o6 b6=>b6.s1 (by simp[fE]) λv7 o7 b7=>?_;have eo:Ext (· = U.size) u v7:=(((o3.ext.trans o4.ext).trans o5.ext).trans o6.ext).trans o7.ext;have e7:bK U v7:=Ext.fresh Y eo λi (hi:i=U.size)=>by omega
  have A:bX v7 U.size (fE iy):=b7;refine A.rI rfl (A.rI rfl (A.rI rfl (A.rI rfl (A.rI rfl ?_))));cases d with
  | false=>exact h0 iy v7 e7 λe F=>(ab rfl e F).resolve_left aA
  | true=>
   obtain⟨e,F,rfl,G⟩:=hf1 rfl;exact h1 e v7 e7 F G
 ·rintro j k (b:B5) (d:Bool) (E:Bool) u u' J ⟨Y,hlt,hb6,D,iy,C,ab,hf1⟩ Q o1 hs1 hJ;have bi:jY b:=(xi _ (D _ Q)).2;have ov:=hov b bi;have zu:=Y.1;have hz':=o1.1;have hbm:=bi.m;have hbz:=bi.z;have hbb:=bi.base;have hbt:=bi.t;have hbs:=bi.s;have hww:=Kw (n:=b.2.1) O;have eu':bK U u':=Ext.fresh Y o1.ext λc (hc:c=v1.size)=>by omega
  have Z:=o1.ext.bU hb6 (show ¬U.size=v1.size by omega);have aa:=o1.ext.bU C (show ¬v.size=v1.size by omega);have hkm:=p.m.lt;refine nw (cs:=fE (0,0,0,0,0)) λv2 hz2 e2 b2=>b2.s1 (by simp[fE]) λv3 o3 b3=>b3.s1 (by simp[fE]) λv4 o4 b4=>b4.s1 (by simp[fE]) λv5 o5 b5=>b5.s1 (by simp[fE]) λv6 o6 b6=>b6.s1 (by simp[fE]) λv7 o7 b7=>?_;have eo:Ext (· = u'.size) v2 v7:=(((o3.ext.trans o4.ext).trans o5.ext).trans o6.ext).trans o7.ext;have e7:bK u' v7:=Ext.fresh e2 eo λi (hi:i=u'.size)=>by omega
  have A:bX v7 u'.size (fE b):=b7;have W:∀{w:Hp},bK u' w->w[v1.size]?=u'[v1.size]?/\w[km]?=u'[km]? := λe=>⟨e.2 _ O id,e.2 _ O id⟩;have N:∀e∈j.filter (λy=>!(y.1==k)),e∈x.kn:=λe F=>D e (zI.1 F).1;have hkb:∀e∈x.kn,e∈j->e∈j.filter (λy=>!(y.1==k))\/e=(k,b):=λe F ht=>by
   by_cases hk:e.1=k
   ·right;have h1:=Vt p.m.nodup (show(e.1,e.2)∈x.kn from F);have h2:=Vt p.m.nodup (D _ Q);rw[hk,h2]at h1;exact Prod.ext hk (Option.some.inj h1).symm
   ·exact .inl (zI.2 ⟨ht,by simpa using hk⟩)
  have same:∀w,bK u' w->(d=false->¬lh ofV addr b)->J d E w:=λw ew hnb=>by
   have zw:=ew.1;refine hJ d E w (W ew).1 (W ew).2 ⟨eu'.trans ew,O,ew.bU Z id,N,iy,ew.bU aa id,λB e F=>?_,hf1⟩;rcases ab B e F with h|h
   ·rcases hkb e F h with h|rfl
    ·exact .inl h
    ·exact .inr (hnb B)
   ·exact .inr h
  refine xD (λr u2=>bK u' u2/\bX u2 u'.size (fE b)/\r = !decide (lh ofV addr b)) (λr u2 ⟨eu2,M,hr⟩=>?_) λJ1 hJ1=>?_
  ·by_cases G:lh ofV addr b
   ·refine cE (by rw[hr,zK G];rfl) ?_;have pu:=(p.fr eu').fr eu2;refine M.rI rfl (M.rI rfl (M.rI rfl (M.rI rfl (M.rI rfl (HE pu b λV e17=>?_)))));have E17:=eu2.trans e17;have g:=e17.bU M id;have h617:=E17.bU Z id;have X:=E17.bU aa id;refine KB (λr u3=>u3=V/\(d=false->r=true)) (λr u3 ⟨hu3,hr3⟩=>?_) λJ2 ac=>?_
    ·rw[hu3];refine KB (λr1 u4=>u4=V/\(d=false->r1=true)) (λr1 u4 ⟨hu4,hr4⟩=>?_) λJ3 hJ3=>?_
     ·rw[hu4];refine cY (λh1=>?_) λh1=>same V E17 λB=>by rw[hr4 B]at h1;cases h1
      refine g.rI rfl (g.rI rfl (g.rI rfl (g.rI rfl (g.rI rfl ?_))));refine X.s1 (by simp[fE]) λw3 q3 c3=>c3.s1 (by simp[fE]) λw4 q4 c4=>c4.s1 (by simp[fE]) λw5 q5 c5=>c5.s1 (by simp[fE]) λw6 q6 c6=>c6.s1 (by simp[fE]) λw7 q7 c7=>?_;have qo:Ext (· = v.size) V w7:=(((q3.ext.trans q4.ext).trans q5.ext).trans q6.ext).trans q7.ext;have c7':bX w7 v.size (fE b):=c7;have z17:=E17.1;have zq:=qo.1;refine hJ true _ w7 ?_ ?_ ⟨Ext.fresh (eu'.trans E17) qo λc (hc:c=v.size)=>O,O,qo.bU h617 (show ¬U.size=v.size by omega),N,b,c7',λh=>(by cases h),λ_=>⟨(k,b),D _ Q,rfl,G⟩⟩
      ·rw[qo.2 _ O (show ¬v1.size=v.size by omega)];exact(W E17).1
      ·rw[qo.2 _ O (show ¬km=v.size by omega)];exact(W E17).2
     ·refine cY (λh=>hJ3 _ _ ⟨rfl,λ_=>rfl⟩) λh=>?_;have S:¬d=false:=λB=>by rw[hr3 B]at h;cases h
      exact bR.intro (cY (λ_=>g.rI rfl (X.rI rfl (hJ3 _ _ ⟨rfl,λB=>(S B).elim⟩))) λ_=>hJ3 _ _ ⟨rfl,λB=>(S B).elim⟩)
    ·refine cY (λh=>ac _ _ ⟨rfl,λ_=>rfl⟩) λh=>?_;have S:¬d=false:=λB=>by rw[B]at h;cases h
     exact bR.intro (cY (λ_=>ac _ _ ⟨rfl,λB=>(S B).elim⟩) λ_=>ac _ _ ⟨rfl,λB=>(S B).elim⟩)
   ·exact cB (by rw[hr,zM G];rfl) (same u2 eu2 λ_=>G)
  ·have hS:∀m,bK v7 m->bX m u'.size (fE b):=λm e=>e.bU A id;refine⟨λm=>bK v7 m,Ext.refl _ _,n0 (c:=bN) (y:=b.1) hS rfl (cR (λh=>hJ1 _ _ ⟨e7,A,?_⟩) λh=>?_)⟩
   ·rw[zM];rfl;rintro⟨h1,_⟩;exact absurd h O
   ·refine n0 (c:=bN) (y:=b.1) hS rfl (jq (c:=bN) (y:=b.1) hS rfl (jq (c:=bN) (y:=b.2.1) hS rfl (jq (c:=bN) (y:=b.2.2.1) hS rfl (jq (c:=bN) (y:=b.2.2.2.1) hS rfl (jq (c:=bN) (y:=b.2.2.2.2) hS rfl (hof b v7 _ bi λu3 e3=>⟨e3,ar O O (hJ1 _ _ ⟨e7.trans e3,e3.bU A id,?_⟩)⟩))))));rw[mq,lx,decide_eq_true_iff,decide_eq_false_iff_not];unfold lh;omega
theorem IA (b:B5)(u:Hp)(K:aN)(bi:jY b)(hK:∀u',bK u u'->K (ZY b.2.1) u'):VE Tryz.prog ⟨44,#[],#[]⟩ [.agg #[.int .i64 b.1,.int .i64 b.2.1,.int .i64 b.2.2.1,.int .i64 b.2.2.2.1,.int .i64 b.2.2.2.2]] [.one bN] u K:=by
 have:=bi.s;refine oS (all := #[.agg #[.int .i64 b.1,.int .i64 b.2.1,.int .i64 b.2.2.1,.int .i64 b.2.2.2.1,.int .i64 b.2.2.2.2]]) (by kernel_rfl) aA ?_;exact UJ b O O hK
def sQ (addr:Int)(b:B5):Prop:=lh (λb=>ZY b.2.1) addr b
def vZ (H:Hw)(x:Gu)(addr e:Int):Prop:=(e=7/\((∀k∈x.kn,¬sQ addr k.2)\/addr%8≠0))\/(∃k∈x.kn,sQ addr k.2/\addr%8=0/\e=if GK H k.2 then 5 else 0)
set_option maxRecDepth 16000 in
theorem Ia (p:GP σ0 U L H held s0 P gb km fm x)(xi:∀e∈x.kn,e.1=e.2.1/\jY e.2)(addr:Int){R:aN}(hR:∀e w,bK U w->vZ H x addr e->R e w):W7.c (aW gb) addr U R:=by
 refine W7.o ?_;unfold W7.v;have C:∀b,jY b->0<=ZY b.2.1/\ZY b.2.1<=100000:=λb A=>by have:=A.s;have:=Kw (n:=b.2.1) O;omega
 have box:∀{w:Hp} {M E N Q S:Int} {K:Addr->Hp->Prop},(∀d,bK w d->bX d w.size (fE (M,E,N,Q,S))->K ⟨w.size,0,none⟩ d) →
  Nw (.cells #[.int .i64 0,.int .i64 0,.int .i64 0,.int .i64 0,.int .i64 0] 95 (0,0)) w λm v2=>eP (m.add 0) (.int .i64 M) v2 λv3=>eP (m.add 1) (.int .i64 E) v3 λZ=>eP (m.add 2) (.int .i64 N) Z λv5=>eP (m.add 3) (.int .i64 Q) v5 λX=>eP (m.add 4) (.int .i64 S) X λv7=>K m v7:=λ{w M E N Q S K} hK=>
  nw (cs:=fE (0,0,0,0,0)) λv2 hz2 e2 b2=>b2.s1 (by simp[fE]) λv3 o3 b3=>b3.s1 (by simp[fE]) λZ o4 b4=>b4.s1 (by simp[fE]) λv5 o5 b5=>b5.s1 (by simp[fE]) λX o6 b6=>b6.s1 (by simp[fE]) λv7 o7 g=>
   hK v7 (Ext.fresh e2 ((((o3.ext.trans o4.ext).trans o5.ext).trans o6.ext).trans o7.ext) λi (hi:i=w.size)=>O) g
 refine HF p (cE rfl (L1 p xi addr C IA (λb w B hn=>?_) λk w B F j=>?_))
 ·refine box λd D g=>bR.intro (cB rfl (cB rfl (hR 7 d (B.trans D) (.inl ⟨rfl,.inl hn⟩))))
 ·refine box λd D g=>?_;have A:jY k.2:=(xi _ F).2;have h0:0<=addr:=by have:=j.1;have:=A.z;have:=A.base;omega
  have a:=B.trans D;refine KB (λr u=>u=d/\r=decide (addr%8≠0)) (λr u ⟨hu,Y⟩=>?_) λJ hJ=>cE rfl (nz aB (hJ _ _ ⟨rfl,?_⟩))
  ·rw[hu];by_cases h8:addr%8≠0
   ·exact cB (by rw[Y];exact zK h8) (hR 7 d a (.inl ⟨rfl,.inr h8⟩))
   ·refine cE (by rw[Y];exact zM h8) (g.rI rfl (g.rI rfl (g.rI rfl (g.rI rfl (g.rI rfl (HE (p.fr a) k.2 λW V=>?_))))));have y:addr%8=0:=by omega
    refine cY (λG=>hR 5 W (a.trans V) (.inr ⟨k,F,j,y,by rw[G];rfl⟩)) λG=>hR 0 W (a.trans V) (.inr ⟨k,F,j,y,by rw[G];rfl⟩)
  ·rw[Qz h0];by_cases h8:addr%8=0
   ·rw[h8];decide
   ·rw[zK h8];simpa using h8
theorem B6 (p:GP σ0 U L H held s0 P gb km fm x)(gc:Gc σ0)(xi:∀e∈x.kn,e.1=e.2.1/\jY e.2)(addr u:Int)(ha:addr<=9223372036854775807){R:aN}(h0:∀e w,e≠0->bK U w->vZ H x addr e->R e w)
 (h1:∀w s0' P',vZ H x addr 0->Ext P U w->GP σ0 w L {H with sp:=ZL H.sp addr u} held s0' P' gb km fm x->(∀c,P' c->P c\/U.size<=c)->R (fG H.sp addr) w):WL.c (aW gb) addr u U R:=by
 refine WL.o ?_;unfold WL.v;refine Ia p xi addr λe w a m=>cY (λi=>h0 e w (by simpa using i) a m) λg=>?_;have s:e=0:=by simpa using g
 subst s;have j:=p.fr a;have A:=a.1;exact aG (j.b.rP rfl (j.write gc addr u ha λz s2 P2 e2 r d=>h1 z s2 P2 m ((bK.to a).trans e2) r λc y=>(d c y).imp id λh=>O))
end Go.Ar
namespace Go.Ar
open Go Go.Vc Go.Proofs
open Go.Vc (bY dG di)
variable {size align:Int}{U σ0 v w w':Hp}{F P Q X T:Rg}{L:dP}{H H' H1:Hw}{held:List Pc}{s0 sp:Sp}{t n:Nat}{g:Th}{gb km fm m:Nat}{x y:Gu}{b:B5}
theorem il.wH {n m:Nat}{H H1 H2:Hw}{t:Nat}{p:Ph}{a1 e1 a2 e2:Int}(h:il n H t p H1 a1 e1)(h':il m H t p H2 a2 e2):H1=H2/\a1=a2/\e1=e2:=by
 induction h generalizing m with
 | done h1 h2=>
  cases h' with
  | done=>exact⟨rfl,rfl,rfl⟩
  | next _ h3 _=>rw[h2]at h3;cases h3
 | next h1 h2 _ ih=>
  cases h' with
  | done _ h3=>rw[h2]at h3;cases h3
  | next _ h3 h4=>rw[h2]at h3;cases h3;exact ih h4
theorem Hk.wH {thread kind size align addr a1 e1 a2 e2:Int}{H1 H2:Hw}(h:Hk H thread kind size align addr H1 a1 e1)(h':Hk H thread kind size align addr H2 a2 e2):H1=H2/\a1=a2/\e1=e2:=by
 rcases h with⟨h1,_,rfl,rfl⟩|⟨t,p,n,h1,h2⟩
 ·rcases h' with⟨g1,_,rfl,rfl⟩|⟨_,_,_,g1,_⟩
  ·rw[h1]at g1;cases g1;exact⟨rfl,rfl,rfl⟩
  ·rw[h1]at g1;cases g1
 ·rcases h' with⟨g1,_⟩|⟨_,_,_,g1,g2⟩
  ·rw[h1]at g1;cases g1
  ·rw[h1]at g1;cases g1;exact h2.wH g2
theorem Ns:uN w0 64:=by
 have h:=N2 (xs:=qA 8) (p:=64) (a:=1) (t:=1) (b:=1024) (r:=2) (Ca 8 aB aB) aB;rw[uv]at h;exact h
theorem HT {a:Option Addr}{thread addr:Int}{R:aN}(h:WS.c a thread addr true U R):Xl.c a thread addr U R:=Xl.o (by unfold Xl.v;exact h)
theorem Ep (H:Hw)(thread:Int):VJ H thread=if 0<=thread/\thread<(H.bQ.length:Int)then fL H thread.toNat else none:=by
 unfold VJ fL;split
 ·cases H.bQ[thread.toNat]?<;>rfl
 ·rfl
theorem Ju (o:ie H H')(thread:Int):KM H' thread=KM H thread:=by
 unfold KM;rw[Ep,Ep,o.kp.2.1,o.kp.2.2.1,o.ph]
theorem F6 {a b:Sl}{xs ys:List Int}{G:Rg}(ha:cT a 1 (Wx xs) U F)(hb:cT b 1 (Wx ys) U G)(hl:xs.length<=1000000000){R:aO}(hR:R (decide (xs=ys)) U):XD.c a b U R:=by
 refine XD.o ?_;unfold XD.v;have A:a.len=xs.length:=by have:=ha.1;simp[Wx]at this;omega
 have z:b.len=ys.length:=by have:=hb.1;simp[Wx]at this;omega
 rw[A,z,pc];refine cY (λr=>?_) λr=>?_
 ·have d:xs.length≠ys.length:=by simpa using r
  rw[zM λe=>d (by rw[e])]at hR;exact hR
 have K:xs.length=ys.length:=by simpa using r
 refine Z5 (a:=bN) (λ(t:Int) v=>∃i:Nat,t=(i:Int)/\i<=xs.length/\v=U/\xs.take i=ys.take i) (λt _=>xs.length-t.toNat) ⟨0,rfl,O,rfl,rfl⟩ ?_;rintro t v ⟨i,rfl,J,rfl,j⟩;refine cR (λE=>?_) λH=>?_
 ·have u:i<xs.length:=by omega
  have g:xs[i]?=some xs[i]:=cW u;have p:ys[i]?=some (ys[i]' O):=cW _;generalize xs[i]=x at g;generalize ys[i]' O=y at p;rw[←A,←z];refine ha.od g (hb.od p (cY (λd=>?_) λw=>?_))
  ·have D:x≠y:=by simpa using d
   rw[zM]at hR
   ·exact hR
   ·intro e;rw[e,p]at g;exact D (Option.some.inj g).symm
  ·have s:x=y:=by simpa using w
   refine cQ (m:=i+1) O O ⟨⟨i+1,rfl,O,rfl,?_⟩,O⟩;rw[lj,lj,j,g,p,s]
 ·have C:i=xs.length:=by omega
  have:xs=ys:=by
   have B:=j;rw[mi O,mi O]at B;exact B
  rw[zK this]at hR;exact hR
def gm:Hw×Int×Int:=(vD w0 0 0 56 16 0).getD (w0,0,99)
theorem xR:gm.2=(4096,0):=by decide +kernel
theorem uo:Hk w0 0 0 56 16 0 gm.1 4096 0:=by
 have a:=xR;unfold gm at *;cases hw:vD w0 0 0 56 16 0 with
 | none=>rw[hw]at a;exact absurd (congrArg Prod.snd a) aB
 | some r=>
  rw[hw]at a;have:=Pr hw;have e1:r.2=(4096,0):=a;rw[e1]at this;exact this
def gB:B5:=(4112,24,4096,64,1)
theorem Ad:K0 gm.1 4096=some 64:=by decide +kernel
def gX:Gu:=Aa.l0 gB
def px:Hw:={gm.1 with sp:=wB gm.1.sp gB}
def nX:Hw:={px with sp:=ZL px.sp 4136 5}
def pE:Hw:={nX with sp:=ZL nX.sp 4136 (-4137)}
def si:Hw:={pE with sp:=ZL pE.sp 4128 7}
theorem Io:fG px.sp 4136=0:=by decide +kernel
theorem tI:xQ nX gX 4112=0/\ym nX gX 4112=[4136]/\nc nX gX 0 4112 true=10/\fG nX.sp 4136=0:=by decide +kernel
theorem yZ:fG pE.sp 4128=0/\GK pE gB=false:=by decide +kernel
theorem CO:nc si gX 0 4112 true=0/\KM (mE si gB) 0=0:=by decide +kernel
theorem yh:gX.kn=[(4112,gB)]:=rfl
theorem nE:∀e∈gX.kn,e.1=e.2.1/\jY e.2:=λe a=>by
 rw[yh,zR]at a;subst a;exact⟨rfl,⟨by decide,by decide⟩,⟨by decide,by decide⟩,⟨by decide,by decide,by decide⟩,⟨by decide,by decide⟩,by decide⟩
theorem LR:nc H (gX.gone 4112) 0 4112 true=if KM H 0≠0 then KM H 0 else 9:=by
 unfold nc;split
 ·rfl
 ·rfl
attribute [local irreducible] w0 gm px nX pE si
theorem MP:px = {gm.1 with sp:=wB gm.1.sp gB}:=by unfold px;rfl
theorem Nx:nX = {px with sp:=ZL px.sp 4136 5}:=by unfold nX;rfl
theorem Nq:pE = {nX with sp:=ZL nX.sp 4136 (-4137)}:=by unfold pE;rfl
theorem Eo:si = {pE with sp:=ZL pE.sp 4128 7}:=by unfold si;rfl
set_option maxRecDepth 8000 in
theorem N4 (gl:Gl U)(gc:Gc U){R:aO}(hR:∀σ',bK U σ'->R true σ'):Xq.c U R:=by
 refine Xq.o ?_;unfold Xq.v;refine Eh gl gc.gd λv L N e hsN hNv h0=>cE rfl ?_;have V:=Ns;have hc0:w0.cf.aF=64:=by have:=V.pg;omega
 refine FY e h0.cut V.hi V.cf O (λb B=>⟨by have:N<=b:=B.1;omega,B.2⟩) (AF gl gc.gd) λw gb km fm e1 _ p=>?_;refine bR.intro (cE rfl (cE rfl ?_));refine Px p gc ⟨by decide,by decide⟩ 0 24 8 (λw D=>absurd D aB) (λe w ts H' g y P' _ d i=>?_) λb w2 ts H1 r s1 P1 C i o e2 X hP2=>?_
 ·have:=i.wH uo;exact absurd this.2.2 d
 obtain⟨rfl,x,_⟩:=i.wH uo;have B:b=gB:=by
  have hu:=C.u;rw[x,Ad]at hu;have h1:=C.a;rw[x]at h1;have h2:b.2.2.2.1=64:=(Option.some.inj hu).symm;exact Prod.ext (h1.trans aB) (Prod.ext C.s (Prod.ext x (Prod.ext h2 C.n)))
 subst B;have X:GP U w2 {L with ts:=ts} px r s1 P1 gb km fm gX:=by rw[MP];exact X
 refine bR.intro (cE aB (bR.intro (cE aB ?_)));refine X.write gc 4136 5 aB λw3 s3 P3 e3 F _=>?_;rw[Io];rw[←Nx]at F;refine cE aB ?_;refine JH F nE 4112 λsl w4 Q e4 hs hQ=>?_;rw[tI.1];rw[tI.2.1]at hs;have p4:=F.fr e4;refine bR.intro (cE aB (nw (cs:=[.int .i64 4136]) λw5 hz5 e5 b5=>?_));have p5:=p4.fr e5;have J:=aI.bO hs e5;have K:cT ⟨some ⟨w4.size,0,none⟩,1,1⟩ 1 (Wx [4136]) w5 (· = w4.size):=b5.ig rfl rfl λj hj=>by rw[zH];rfl
 refine F6 (bW.ig J) K aA ?_;refine bR.intro ?_;refine cE (show(!decide (([4136]:List Int)=[4136]))=false by decide) ?_;refine HT ?_;refine yO p5 gc nE 0 4112 true (λw6 d e6=>?_) λb w6 ts H1 g y P' e _ h=>by rw[tI.2.2.1]at h;exact absurd h aB
 rw[tI.2.2.1];have p6:=p5.fr e6;refine bR.intro (cE aB ?_);refine p6.write gc 4136 (-4137) aB λw7 s7 P7 e7 p7 _=>?_;rw[tI.2.2.2];rw[←Nq]at p7;refine cE aB ?_;have S:sQ 4128 gB:=⟨by decide,by decide⟩;have m:¬sQ 4136 gB:=λh=>absurd h.2 aB;have wd:∀{H:Hw} {a e:Int},GK H gB=false->vZ H gX a e->(sQ a gB/\a%8=0->e=0)/\(¬sQ a gB->e=7):=λhl i=>by
  rcases i with⟨rfl,h⟩|⟨k,D,hi,h8,rfl⟩
  ·refine⟨λh'=>?_,λ_=>rfl⟩;rcases h with h|h
   ·exact absurd h'.1 (h (4112,gB) (by rw[yh];exact zR.2 rfl))
   ·exact absurd h'.2 h
  ·rw[yh,zR]at D;subst D;simp only[hl];exact⟨λ_=>rfl,λh=>absurd hi h⟩
 refine B6 p7 gc nE 4128 7 aB (λe w d _ i=>absurd ((wd yZ.2 i).1 ⟨S,by decide⟩) d) λw8 s8 P8 _ e8 M _=>?_;rw[yZ.1];rw[←Eo]at M;have A:GK si gB=false:=by rw[Eo];exact yZ.2
 refine B6 M gc nE 4136 7 aB (λe w9 d e9 i=>?_) λw s P i=>absurd ((wd A i).2 m) aB;have E:=(wd A i).2 m;subst E;have p9:=M.fr e9;refine bR.intro (cB rfl (bR.intro (cB rfl ?_)));refine HT ?_;refine yO p9 gc nE 0 4112 true (λw d=>absurd CO.1 d) λb w10 ts H1 g y P' e W _ i o fe e10 z hP10=>?_;have G:b=gB:=by
  have:bY gX.kn 4112=some gB:=rfl;rw[this]at W;exact(Option.some.inj W).symm
 subst G;refine bR.intro (cB rfl ?_);have xi:∀e∈(gX.gone 4112).kn,e.1=e.2.1/\jY e.2:=λe E=>by
  rw[show(gX.gone 4112).kn=[]from rfl]at E;simp at E
 have h9:nc H1 (gX.gone 4112) 0 4112 true=9:=by
  rw[LR,Ju o,CO.2];rfl
 refine HT ?_;refine yO z gc xi 0 4112 true (λY d Z=>?_) λb w ts H1 g y P' e W h=>by rw[h9]at h;exact absurd h aB
 rw[h9];exact hR Y (z.fr Z).e
end Go.Ar
namespace Go.Proofs
open Go.Vc
set_option maxRecDepth 100000
def WX.h:Hn:=.q .o1 (.q .o3 (.q .o3 (.jT [(9,.one .p),(10,.one .p)] (.q .o1 (.c .o2 .l)) (.q .o7 (.q .gG (.q .o8 (.q .o8 (.q .o9 (.q (.cS (.seq [.op,.op,.op,.cO true 2 [.op,.op],.op,.cO true 2 [.op,.op],.op,.cO true 2 [.op,.op],.op,.cO true 5 (RI.ops 5),.op,.cO true 5 (RI.ops 5),.op,.cO true 3 (RI.ops 3),.op,.cO true 2 [.op,.op],.op,.cO true 4 (RI.ops 4),.op,.cO true 2 [.op,.op],.op,.cO true 2 [.op,.op],.op,.cO true 5 (RI.ops 5),.op,.cO true 4 (RI.ops 4),.op,.cO true 3 (RI.ops 3),.op,.cO true 2 [.op,.op],.op,.cO true 3 (RI.ops 3),.op,.cO true 3 (RI.ops 3),.op,.cO true 4 (RI.ops 4),.op,.cO true 1 [.op],.op])) .l)))))))))
def WX.v (a b c:Int)(d:Bool)(e:Hp)(f:aO):Prop:=aV #[.pointer none,.map none,.map none,.I 0] 74 e λg h=>aV #[.slice none 0 0,.I 0,.I 0,.I 0,.I 0,.I 0,.pointer none,.slice none 0 0,.slice none 0 0,.map none] 81 h λi j=>Jn [.p,.p] (λ(k:R2) (l:R2) m=>Z3.c l m λn o p=>WM.c k a b c p λq r s=>W3.c k b s λt u v=>YY.c k b v λw x y=>Y1.c k b y λz aa ab ac ad ae=>aV #[.I 0,.I 0,.I 0,.I 0] 52 ae λaf ag=>aR af 0 (.I z) ag λah=>aR af 1 (.I aa) ah λai=>aR af 2 (.I ab) ai λaj=>aR af 3 (.I ac) aj λak=>bR (λal am=>bR (λan ao=>bR (λap aq=>bR (λar au=>bR (λav aw=>bR (λax ay=>bR (λaz a0=>bR (λa1 a2=>bR (λa3 a4=>bR (λa5 a6=>bR (λa7 a8=>bR (λa9 ba=>bR (λbb bc=>bR (λbd be=>bR (λbf bg=>bR (λbh bi=>bR (λbj bk=>bR (λbl bm=>f bl bm) λbn=>If bj (Xq.c bk λbo bp=>bn bo bp) (bn false bk)) λbq=>If bh (Xe.c bi λbr bs=>Y8.c k br bs λbt bu=>bq bt.isNone bu) (bq false bi)) λbv=>If bf (YD.c k bg λbw bx=>bv bw.isNone bx) (bv false bg)) λbz=>If bd (YX.c k be λb0 b1=>bz b0.isNone b1) (bz false be)) λb2=>If bb (b2 (ad==5) bc) (b2 false bc)) λb3=>If a9 (aQ af 0 ba λb4=>aQ af 1 ba λb5=>aQ af 2 ba λb6=>aQ af 3 ba λb7=>b3 ((b4==0)&&((b5==0)&&((b6==0)&&((b7==0)&&true)))) ba) (b3 false ba)) λb8=>If a7 (YZ.c k a8 λb9 ca=>b8 (((b9.len:Nat):Int)==0) ca) (b8 false a8)) λcb=>If a5 (WL.c k b c a6 λcc cd=>cb (cc==5) cd)
 (cb false a6)) λce=>If a3 (ce (x==5) a4) (ce false a4)) λcf=>If a1 (cf (w==0) a2) (cf false a2)) λcg=>If az (YE.c k a0 λch ci=>cg (((ch.len:Nat):Int)==0) ci) (cg false a0)) λcj=>If ax (cj (u==5) ay) (cj false ay)) λck=>If av (ck (((t.len:Nat):Int)==0) aw) (ck false aw)) λcl=>If ar (YF.c k a b au λcm cn=>cl (cm==5) cn) (cl false au)) λco=>If ap (Xl.c k a b aq λcp cq=>co (cp==5) cq) (co false aq)) λcr=>If an (cr (r==5) ao) (cr false ao)) λcs=>If al (cs (q==0) am) (cs false am)) λct=>If n.isNone (ct (o==1) ak) (ct false ak)) λcu=>If d (cu none none j) (cu (some g) (some i) j)
theorem WX.o {a b c d e f}(g:WX.v a b c d e f):WX.c a b c d e f:=Wa Tryz.func9 (x:=WX.h) (R0 g)
end Go.Proofs
namespace Go.Ar
open Go Go.Vc Go.Proofs
variable {U v w w':Hp}{m vh:Option Addr}
def CY:List Value:=[.pointer none,.map none,.map none,.int .i64 0]
def qX (m:Option Addr)(U:Hp):Prop:=m=none\/∃n,m=some ⟨n,0,none⟩/\bX U n CY
theorem qX.bO (h:qX m U)(e:bK U w):qX m w:=h.imp id λ⟨n,b,a⟩=>⟨n,b,e.bU a id⟩
theorem QH (h:qX m U){R:aO}(hR:R false U):Ws.c m U R:=by
 refine Ws.o ?_;unfold Ws.v;rcases h with rfl|⟨n,rfl,hb⟩
 ·exact bR.intro (cE rfl hR)
 ·exact bR.intro (cB rfl (aG (hb.rP rfl hR)))
theorem Mj (h:B0 vh U){R:aO}(hR:∀w,bK U w->R false w):Zw.c vh U R:=by
 refine Zw.o ?_;unfold Zw.v;rcases h with rfl|⟨n,rfl,hb⟩
 ·exact bR.intro (cE rfl (hR U (Ext.refl _ _)))
 ·refine bR.intro (cB rfl (Xk.o ?_));unfold Xk.v;refine nw (cs:=[.int .i64 0,.int .i64 0,.int .i64 0,.int .i64 0,.int .i64 0]) λv u e b=>WZ.o ?_;unfold WZ.v;have d:=e.bU hb id;refine bR.intro (cB rfl (aG (d.rS rfl (cB rfl ?_))));refine b.s1 aA λs o1 m=>m.s1 aA λr o2 p=>p.s1 aA λv3 o3 g=>g.s1 aA λx o4 i=>i.s1 aA λj o5 a=>?_;refine a.rI rfl (a.rI rfl (a.rI rfl (a.rI rfl (a.rI rfl (hR j ?_)))));exact((((e.only o1 (.inr (zD _))).only o2 (.inr (zD _))).only o3 (.inr (zD _))).only o4 (.inr (zD _))).only o5 (.inr (zD _))
theorem Dw (h:qX m U)(thread addr:Int)(whole:Bool){R:aN}(hR:R 5 U):WS.c m thread addr whole U R:=by
 refine WS.o ?_;unfold WS.v;exact QH h (cB rfl hR)
theorem Ej (h:qX m U)(addr:Int){R:aN}(hR:R 5 U):W7.c m addr U R:=by
 refine W7.o ?_;unfold W7.v;exact QH h (cB rfl hR)
theorem Ap {K:eH [.p,.p]}{body:eH [.p,.p]->Prop}(P:Option Addr->Option Addr->Hp->Prop)(h1:∀r s w,P r s w->K r s w)(h2:∀J:eH [.p,.p],(∀r s w,P r s w->J r s w)->body J):Jn [.p,.p] K body:=Jn.intro (h2 K h1)
set_option maxRecDepth 16000 in
theorem OT (gl:Gl U)(gc:Gc U)(thread a b:Int)(nn:Bool){R:aO}(hR:∀σ',bK U σ'->R true σ'):WX.c thread a b nn U R:=by
 refine WX.o ?_;unfold WX.v;refine nw (cs:=CY) λv hz e hb=>nw (cs:=B8) λv1 hz1 e1 y=>?_;have A:=e1.bU hb id;refine Ap (λm E w=>qX m w/\B0 E w/\bK U w) (λm E w ⟨X,hh,Q⟩=>?_) λJ G=>cY (λ_=>G _ _ _ ⟨.inl rfl,.inl rfl,e.trans e1⟩) λ_=>G _ _ _ ⟨.inr ⟨_,rfl,A⟩,.inr ⟨_,rfl,y⟩,e.trans e1⟩;refine Z3.o ?_;unfold Z3.v;refine Mj hh λw1 e1=>cB rfl ?_;have C:=X.bO e1;refine WM.o ?_;unfold WM.v;refine nw (cs:=[.pointer m]) λz hz2 e2 b2=>b2.oQ rfl ?_;have g:=C.bO e2;refine QH g (cB rfl (W3.o ?_));unfold W3.v;refine QH g (cB rfl (YY.o ?_));unfold YY.v;refine Ej g a (cB rfl (Y1.o ?_));unfold Y1.v;refine nw (cs:=[.int .i64 0,.int .i64 0,.int .i64 0,.int .i64 0]) λw3 S F H=>?_;have B:=g.bO F;refine QH B (cB rfl ?_);refine H.s1 aA λq1 o1 c1=>c1.s1 aA λq2 o2 P=>P.s1 aA λq3 o3 c3=>c3.s1 aA λq4 o4 s=>s.rI rfl (s.rI rfl (s.rI rfl (s.rI rfl ?_)));have Z:Ext (· = z.size) w3 q4:=((o1.ext.trans o2.ext).trans o3.ext).trans o4.ext;have p:bK z q4:=Ext.fresh F Z λi (hi:i=z.size)=>by omega
 have x:=g.bO p;refine nw (cs:=[.int .i64 0,.int .i64 0,.int .i64 0,.int .i64 0]) λw5 hz5 W M=>?_;refine M.s1 aA λr1 K d1=>d1.s1 aA λr2 Y d2=>d2.s1 aA λr3 V d3=>d3.s1 aA λr4 p4 r=>?_;have po:Ext (· = q4.size) w5 r4:=((K.ext.trans Y.ext).trans V.ext).trans p4.ext;have j:bK q4 r4:=Ext.fresh W po λi (hi:i=q4.size)=>by omega
 have d:=x.bO j;have E5:=(((Q.trans e1).trans e2).trans p).trans j;refine bR.intro (cB rfl (bR.intro (cB rfl (bR.intro (cB rfl (bR.intro (cB rfl (HT (Dw d thread a true ?_)))))))));refine bR.intro (cB rfl (YF.o ?_));unfold YF.v;refine Dw d thread a false (bR.intro (cB rfl (bR.intro (cB rfl (bR.intro (cB rfl (YE.o ?_)))))));unfold YE.v;refine QH d (cB rfl (bR.intro (cB rfl (bR.intro (cB rfl (bR.intro (cB rfl (WL.o ?_))))))));unfold WL.v;refine Ej d a (cB rfl (bR.intro (cB rfl (YZ.o ?_))));unfold YZ.v;refine QH d (cB rfl (bR.intro (cB rfl (r.rI rfl (r.rI rfl (r.rI rfl (r.rI rfl ?_)))))));refine bR.intro (cB rfl (bR.intro (cB rfl (YX.o ?_))));unfold YX.v;refine QH d (cB rfl (bR.intro (cB rfl (YD.o ?_))));unfold YD.v;refine QH d (cB rfl (bR.intro (cB rfl ?_)));refine Eh (gl.bO E5) (gc.bO E5).gd λu L N D _ _ _=>Y8.o ?_;unfold Y8.v;refine QH (d.bO D) (bR.intro (cB rfl (cB rfl ?_)));have E6:=E5.trans D;exact bR.intro (cB rfl (N4 (gl.bO E6) (gc.bO E6) λq eq=>hR q (E6.trans eq)))
end Go.Ar
namespace Go.Ar
open Go Go.Vc Go.Proofs Go.ChangeShapes Go.WideShapes Go.RowKit Go.Deep
theorem Hl {H:Type}{enc:TypeId×Value->H}{P:Program}{w:World}{base:Nat}{sp:Nat->Bool}{held:Bool}{fuel:Nat}{t:TypeId}{c:Value}{y:DataW H×List MemPlace}
 (ht:P.underlying t=some .bool) (h:DataW.trod enc P w base sp held fuel t [c]=some y):∃n,c=.bool n/\y=(.lit (.bool n),[]):=by
 cases fuel with
 | zero=>simp[DataW.trod]at h
 | succ fuel=>
  cases c<;>simp[DataW.trod,ht]at h
  rename_i n;exact⟨n,rfl,by simpa using h.symm⟩
theorem H8 {P:Program}{w:World}{t:TypeId}{f0 f1:Field}{cs:Array Value}{fuel:Nat}{p:List MemPlace}{x y:Bool}(ht:P.underlying t=some (.struct #[f0,f1]))(hone:oneCellFields P #[f0,f1]=true)(hC:P.cellsOf t=2)
 (h0:P.underlying f0.type=some .bool) (h1:P.underlying f1.type=some .bool) (h:DataW.trod (λ_=>()) P w 0 (λ_=>true) false fuel t cs.toList=some (.agg [.lit (.bool x),.lit (.bool y)],p)):cs = #[.bool x,.bool y]:=by
 obtain⟨m,n,A,i,a,e,b⟩:=DataW.trod_struct ht h;obtain⟨l⟩:=cs;have d:l.length=2:=by rw[←hC];simpa using a
 match l,d with
 | [c0,c1],_=>
  have j:=b 0 f0 rfl;have g:=b 1 f1 rfl;obtain⟨s,z⟩:=hone_of hone 0 f0 rfl;obtain⟨o1,u⟩:=hone_of hone 1 f1 rfl;rw[s,z]at j;rw[o1,u]at g
  match m,e with
  | [y0,y1],_=>
   obtain⟨B,rfl,r⟩:=Hl h0 (c:=c0) (y:=y0) (by simpa using j);obtain⟨C,rfl,e1⟩:=Hl h1 (c:=c1) (y:=y1) (by simpa using g);subst r;subst e1;simp at i;obtain⟨⟨rfl,rfl⟩,_⟩:=i;rfl
theorem UT {w:World}{a:Addr}{v:Value}(h:w.cell? a=some v):cell w.heap a=some v:=h
section
variable {H:Type}{enc:TypeId×Value->H}{P:Program}{w:World}
end
end Go.Ar