/- Texts joined. -/
import Derived.Shelf.SlSortCmp.NoneTotal
import Derived.Ground.SlsfProg
import Derived.Test.YteihenagckcobaaGreatDoorProg
import Derived.Shelf.SlIterI.Nil
import Derived.Ground.GgzProg
import Derived.Test.YteihenagckcobaaGreatDoorE6
set_option linter.unusedVariables false
set_option linter.unusedSimpArgs false
namespace Go.Ar
open Go Go.Vc Go.Proofs
variable {U w:Hp}
def l7:Nat->Int->Int->List T3
 | 0,_,_=>[]
 | n+1,s,w=>if s<512 then kV s w::l7 n (s+wz s w) w else[]
def allM (w:Int):List T3:=l7 64 8 w++[kV 512 w]
def GU (l:List T3)(i:Nat):Bool:=i==l.length-1||(match l[i]?,l[i+1]? with
 | some x,some y=>x.2.1 != y.2.1||l9 x != l9 y
 | _,_=>false)
def lL (l:List T3)(n:Nat):List T3:=(List.range n).filterMap λi=>if GU l i then l[i]? else none
def pT (w:Int):List T3:=lL (allM w) (allM w).length
def se (x:T3):Prop:=8<=x.1/\x.1<=512/\1<=x.2.1/\x.2.1<=4
theorem C4 (s w:Int)(h1:8<=s)(h2:s<=512):se (kV s w):=⟨h1,h2,PI s w 4⟩
theorem sq {Q:Rg}{s:Sl}{l:List T3}{e1 e2:Nat}(ho:Go.Vc.Own Q U s 3 (j6 l))(hQ:∀b,U.size<=b->Q b)(hl:l.length<=1000)(x:T3){K:Sl->Hp->Prop}(hK:∀s' σ',Ext Q U σ'->Go.Vc.Own Q σ' s' 3 (j6 (l++[x]))->K s' σ') :
 Nw (.cells #[.int .i64 x.1,.int .i64 x.2.1,.int .i64 x.2.2] e1 (0,0)) U λn20 v3=>App s 3 24 e2 [.int .i64 0,.int .i64 0,.int .i64 0] ⟨some n20,1,1⟩ v3 K:=by
 have i:s.len=l.length:=by have:=ho.1;rw[VC]at this;omega
 refine nw (cs:=v3 x) λv p e a=>?_;refine(ho.bO e).app (ys:=v3 x) (λb a=>hQ b O) rfl rfl ?_ (by simp[v3,dQ]) ?_ ?_ mT λs' m _ d g _=>hK s' m ?_ ?_
 ·intro j u hu;rw[add_lit,zH,a.cell];exact hu
 ·simp only;have:(s.len+1)*24<=1001*24:=lV O O;omega
 ·simp only;omega
 ·exact(bK.to e).trans (d.sub λb a=>((ho.bO e).jf a).1)
 ·rw[Am];exact g
theorem Ro (w:Int)(h:w<2\/16<w){R:Sl->Int->Hp->Prop}(hR:R ⟨none,0,0⟩ 1 U):WR.c w U R:=by
 refine WR.o ?_;unfold WR.v;exact bV.intro (cQ (λa=>cD rfl hR) λa=>cD (zJ O) hR)
theorem DU (w:Int)(hw1:2<=w)(hw2:w<=16){R:Sl->Int->Hp->Prop}(hR:∀s' σ',bK U σ'->ic σ' s' (pT w)->R s' 0 σ'):WR.c w U R:=by
 refine WR.o ?_;unfold WR.v;refine bV.intro (fR O (cB (zM O) ?_));refine UH (a:=.s) (bb:=bN) (λ(all:Sl) (s:Int) u=>∃(n:Nat) (done:List T3),8<=s/\s<=768/\bK U u/\Go.Vc.Own (λb=>U.size<=b) u all 3 (j6 done)/\done++l7 n s w=l7 64 8 w/\512<=s+8*(n:Int)/\(∀x∈done,se x)/\done.length+n=64) (λ_ s _=>1000-s.toNat) ⟨64,[],O,O,Ext.refl _ _,Own.nil _ _ _,rfl,O,by simp,by simp⟩ ?_;rintro(all:Sl) (s:Int) u ⟨n,done,hs1,hs2,eu,ho,hdone,hn,hok,hlen⟩;refine cQ (λS=>?_) λV=>?_
 ·obtain⟨n,rfl⟩:∃m,n=m+1:=⟨n-1,O⟩;refine Ik s w O O hw1 hw2 λv2 e2=>?_;refine sq (ho.bO e2) (λb E=>by have:=eu.1;have:=e2.1;omega) O (kV s w) λall1 v4 e4 h4=>?_;have e04:bK U v4:=Ext.dT (eu.trans e2) e4 λb E=>.inr E;refine L5 s w O O hw1 λd1 d2=>ar O O ⟨⟨n,done++[kV s w],O,O,e04,h4,?_,O,λx B=>?_,by simp;omega⟩,O⟩
  ·rw[←hdone,jY]
   congr 1
   conv=>rhs;rw[l7,zC S]
   rfl
  ·rcases zK.1 B with h1|h1
   ·exact hok x h1
   ·rw[zN]at h1;subst h1;exact C4 s w O O
 ·have Q:l7 n s w=[]:=by
   cases n with
   | zero=>rfl
   | succ n=>rw[l7,zB V]
  rw[Q,kP]at hdone;refine Ik 512 w O O hw1 hw2 λv6 e6=>?_;refine sq (ho.bO e6) (λb E=>by have:=eu.1;have:=e6.1;omega) O (kV 512 w) λe v8 e8 J=>?_;have e08:bK U v8:=Ext.dT (eu.trans e6) e8 λb E=>.inr E;rw[hdone]at J;have p:∀x∈allM w,se x:=λx B=>by
   rcases zK.1 B with h1|h1
   ·rw[←hdone]at h1;exact hok x h1
   ·rw[zN]at h1;subst h1;exact C4 512 w O O
  have hml:(allM w).length<=65:=by unfold allM;rw[←hdone];simp;omega
  have J:Go.Vc.Own (λb=>U.size<=b) v8 e 3 (j6 (allM w)):=J;generalize hall:allM w=l at J p hml;have hmk:pT w=lL l l.length:=by unfold pT;rw[hall]
  have hl2:e.len=l.length:=by have:=J.1;rw[VC]at this;omega
  refine UH (a:=.s) (bb:=bN) (λ(out:Sl) (z:Int) u=>∃i:Nat,z=(i:Int)/\i<=l.length/\bK v8 u/\Go.Vc.Own (λb=>v8.size<=b) u out 3 (j6 (lL l i))/\(lL l i).length<=i) (λ_ z _=>l.length-z.toNat) ⟨0,rfl,O,Ext.refl _ _,Own.nil _ _ _,by simp[lL]⟩ ?_;rintro(out:Sl) (z:Int) u ⟨i,rfl,hi,eu8,hout,hol⟩;refine cQ (λS=>?_) λV=>?_
  ·have hi':i<l.length:=by omega
   have B:l[i]?=some l[i]:=cV hi';generalize l[i]=x at B;have D:=p x (zG B);have g:lL l (i+1)=lL l i++(if GU l i then[x]else[]):=by
    unfold lL;rw[pU,wq]
    congr 1
    by_cases hk:GU l i=true
    ·simp[hk,B]
    ·simp[hk]
   have hA:∀m,bK u m->ic m e l:=λm d=>EE (J.bO (eu8.trans d));refine yC (λr u'=>bK u u'/\r=GU l i) (λr u' ⟨j,hr⟩=>?_) λJ3 G=>?_
   ·have L:=hout.bO j;cases hk:GU l i with
    | true=>
     rw[hk]at hr g;refine cD hr (xD (hA u' j) B ?_);refine sq L (λb E=>by have:=eu8.1;have:=j.1;omega) O x λout1 v12 e12 h12=>?_;refine cP (m:=i+1) O O ⟨⟨i+1,rfl,O,Ext.dT (eu8.trans j) e12 λb E=>.inr E,?_,?_⟩,O⟩
     ·rw[g];exact h12
     ·rw[g];simp;omega
    | false=>
     rw[hk]at hr g;refine cB hr (cP (m:=i+1) O O ⟨⟨i+1,rfl,O,eu8.trans j,?_,?_⟩,O⟩)
     ·rw[g];simpa using L
     ·rw[g];simp;omega
   ·refine⟨λm=>bK u m,Ext.refl _ _,ar O O ?_⟩;refine cO (λF=>G _ _ ⟨Ext.refl _ _,?_⟩) λhnl=>?_
    ·have:i=l.length-1:=by simp only[zT]at F;omega
     unfold GU;rw[this];simp
    ·have hi2:i+1<l.length:=by simp only[lu]at hnl;omega
     have hy:l[i+1]?=some l[i+1]:=cV hi2;generalize l[i+1]=y at hy;have C:=p y (zG hy);have P:GU l i=(x.2.1 != y.2.1||l9 x != l9 y):=by
      unfold GU;rw[B,hy];have:(i==l.length-1)=false:=by simp only[lu];omega
      rw[this];rfl
     have M:=λ(m:Hp) (d:bK u m)=>(hA m d).2 i x.1 x.2.1 x.2.2 B;have hcy:=λ(m:Hp) (d:bK u m)=>(hA m d).2 (i+1) y.1 y.2.1 y.2.2 hy;obtain⟨b,o,Z,_,_⟩:=M u (Ext.refl _ _);have rx:∀m,bK u m->cell m ⟨b,o+i*3,none⟩=some (.int .i64 x.1)/\cell m ⟨b,o+i*3+1,none⟩=some (.int .i64 x.2.1)/\cell m ⟨b,o+i*3+2,none⟩=some (.int .i64 x.2.2):=λm d=>by
      obtain⟨b',o',A,_,h⟩:=M m d;rw[Z]at A;cases A;exact h
     have Y:∀m,bK u m->cell m ⟨b,o+(i+1)*3,none⟩=some (.int .i64 y.1)/\cell m ⟨b,o+(i+1)*3+1,none⟩=some (.int .i64 y.2.1)/\cell m ⟨b,o+(i+1)*3+2,none⟩=some (.int .i64 y.2.2):=λm d=>by
      obtain⟨b',o',A,_,h⟩:=hcy m d;rw[Z]at A;cases A;exact h
     have X:∀{K:Addr->Prop},K ⟨b,o+i*3,none⟩->Ix e.a e.len (i:Int) 3 K:=λhK=>by
      rw[Z];exact ix O O (by rw[add_lit,dE];exact hK)
     have W:∀{K:Addr->Prop},K ⟨b,o+(i+1)*3,none⟩->Ix e.a e.len ((i+1:Nat):Int) 3 K:=λhK=>by
      rw[Z];exact ix O O (by rw[add_lit,dE];exact hK)
     refine X ⟨x.2.1,λm d=>by rw[add_lit];exact(rx m d).2.1,cP (m:=i+1) O O (W ⟨y.2.1,λm d=>by rw[add_lit];exact(Y m d).2.1,?_⟩)⟩;refine cO (λhp=>G _ _ ⟨Ext.refl _ _,by rw[P,hp];rfl⟩) λhp=>?_;refine X ⟨x.1,λm d=>by rw[add_lit];exact(rx m d).1,⟨x.2.1,λm d=>by rw[add_lit];exact(rx m d).2.1,⟨x.2.2,λm d=>by rw[add_lit];exact(rx m d).2.2,?_⟩⟩⟩;refine cP (m:=i+1) O O (W ⟨y.1,λm d=>by rw[add_lit];exact(Y m d).1,⟨y.2.1,λm d=>by rw[add_lit];exact(Y m d).2.1,⟨y.2.2,λm d=>by rw[add_lit];exact(Y m d).2.2,?_⟩⟩⟩);refine DQ x D.1 D.2.1 D.2.2.1 D.2.2.2 λv13 H=>⟨H,DQ y C.1 C.2.1 C.2.2.1 C.2.2.2 λv14 N=>⟨H.trans N,G _ _ ⟨H.trans N,by rw[P,hp];rfl⟩⟩⟩
  ·have hil:i=l.length:=by omega
   subst hil;refine hR out u (e08.trans eu8) ?_;rw[hmk];exact EE hout
theorem Hl:∀w:Nat,2<=w->w<=16->Qe (pT (w:Int))=true:=by
 have h:((List.range 17).all λw=>decide (w<2)||Qe (pT (w:Int)))=true:=by decide +kernel
 intro w h1 h2;have:=j5.1 h w (zg.2 O);simp only[nb,zU]at this;exact this.resolve_left O
end Go.Ar
namespace Go.Proofs
open Go.Shelf
def Tryz.eO:Go.Shelf.Ren:=⟨fun|6=>263|15=>87|14=>291|28=>128|29=>129|20=>311|21=>312|22=>313|23=>314|24=>315|25=>316|26=>317|27=>318|46=>324|47=>185|48=>186|49=>325|50=>326|57=>328|n=>n,fun|22=>129|24=>135|25=>341|3=>3|39=>145|0=>0|53=>196|55=>55|4=>4|46=>188|45=>187|50=>193|5=>5|9=>9|66=>271|70=>275|76=>324|77=>325|n=>n,fun|n=>n⟩
theorem Tryz.oZ:Go.Proofs.SlLaysF0.n6 Tryz.prog Tryz.eO:={
 mixed:=by kernel_rfl
 f6:=⟨Tryz.f263.name,by decide,Tryz.func263.trans (congrArg some (by kernel_rfl))⟩
 f14:=⟨Tryz.f291.name,by decide,Tryz.func291.trans (congrArg some (by kernel_rfl))⟩
 f15:=Tryz.func87.trans (congrArg some (by kernel_rfl))
 f20:=⟨Tryz.f311.name,by decide,Tryz.func311.trans (congrArg some (by kernel_rfl))⟩
 f21:=⟨Tryz.f312.name,by decide,Tryz.func312.trans (congrArg some (by kernel_rfl))⟩
 f22:=⟨Tryz.f313.name,by decide,Tryz.func313.trans (congrArg some (by kernel_rfl))⟩
 f23:=⟨Tryz.f314.name,by decide,Tryz.func314.trans (congrArg some (by kernel_rfl))⟩
 f24:=⟨Tryz.f315.name,by decide,Tryz.func315.trans (congrArg some (by kernel_rfl))⟩
 f25:=⟨Tryz.f316.name,by decide,Tryz.func316.trans (congrArg some (by kernel_rfl))⟩
 f26:=⟨Tryz.f317.name,by decide,Tryz.func317.trans (congrArg some (by kernel_rfl))⟩
 f27:=⟨Tryz.f318.name,by decide,Tryz.func318.trans (congrArg some (by kernel_rfl))⟩
 f28:=Tryz.func128.trans (congrArg some (by kernel_rfl))
 f29:=Tryz.func129.trans (congrArg some (by kernel_rfl))
 f46:=⟨Tryz.f324.name,by decide,Tryz.func324.trans (congrArg some (by kernel_rfl))⟩
 f47:=Tryz.func185.trans (congrArg some (by kernel_rfl))
 f48:=Tryz.func186.trans (congrArg some (by kernel_rfl))
 f49:=⟨Tryz.f325.name,by decide,Tryz.func325.trans (congrArg some (by kernel_rfl))⟩
 f50:=⟨Tryz.f326.name,by decide,Tryz.func326.trans (congrArg some (by kernel_rfl))⟩
 f57:=⟨Tryz.f328.name,by decide,Tryz.func328.trans (congrArg some (by kernel_rfl))⟩
 t0:=Tryz.underlying0
 a0:=Tryz.isAgg0
 z0:=Tryz.sizeOf0
 v0:=Tryz.zeroValue0
 t3:=Tryz.underlying3
 a3:=Tryz.isAgg3
 z3:=Tryz.sizeOf3
 v3:=Tryz.zeroValue3
 t4:=Tryz.underlying4
 a4:=Tryz.isAgg4
 z4:=Tryz.sizeOf4
 v4:=Tryz.zeroValue4
 t5:=Tryz.underlying5
 a5:=Tryz.isAgg5
 z5:=Tryz.sizeOf5
 v5:=Tryz.zeroValue5
 t9:=Tryz.underlying9
 a9:=Tryz.isAgg9
 z9:=Tryz.sizeOf9
 v9:=Tryz.zeroValue9
 t22:=Tryz.underlying129
 a22:=Tryz.isAgg129
 z22:=Tryz.sizeOf129
 v22:=Tryz.zeroValue129
 t25:=Tryz.underlying341
 a25:=Tryz.isAgg341
 z25:=Tryz.sizeOf341
 v25:=Tryz.zeroValue341
 t39:=Tryz.underlying145
 a39:=Tryz.isAgg145
 z39:=Tryz.sizeOf145
 v39:=Tryz.zeroValue145
 t45:=Tryz.underlying187
 a45:=Tryz.isAgg187
 z45:=Tryz.sizeOf187
 v45:=Tryz.zeroValue187
 t46:=Tryz.underlying188
 a46:=Tryz.isAgg188
 z46:=Tryz.sizeOf188
 v46:=Tryz.zeroValue188
 t50:=Tryz.underlying193
 a50:=Tryz.isAgg193
 z50:=Tryz.sizeOf193
 v50:=Tryz.zeroValue193
 t53:=Tryz.underlying196
 a53:=Tryz.isAgg196
 z53:=Tryz.sizeOf196
 v53:=Tryz.zeroValue196
 t55:=Tryz.underlying55
 a55:=Tryz.isAgg55
 z55:=Tryz.sizeOf55
 v55:=Tryz.zeroValue55
 t66:=Tryz.underlying271
 a66:=Tryz.isAgg271
 z66:=Tryz.sizeOf271
 v66:=Tryz.zeroValue271
 t70:=Tryz.underlying275
 a70:=Tryz.isAgg275
 z70:=Tryz.sizeOf275
 v70:=Tryz.zeroValue275
 t76:=Tryz.underlying324
 a76:=Tryz.isAgg324
 z76:=Tryz.sizeOf324
 v76:=Tryz.zeroValue324
 t77:=Tryz.underlying325
 a77:=Tryz.isAgg325
 z77:=Tryz.sizeOf325
 v77:=Tryz.zeroValue325}
end Go.Proofs
namespace Go.Ar
open Go Go.Vc Go.Proofs Go.RowKit Go.Sort Go.Shelf Go.Lib
abbrev sO:=Fin 64×Sl
instance:Inhabited sO:=⟨(0,⟨none,0,0⟩)⟩
def kA (x:sO):List Value:=[.int .i64 (x.1.val:Int),.slice x.2.a x.2.len x.2.cap]
def oE (x y:sO):Int:=(x.1.val:Int)-(y.1.val:Int)
theorem Bf (x y:sO)(W:World):Calls Tryz.prog 264 #[.agg #[.int .i64 (x.1.val:Int),.slice x.2.a x.2.len x.2.cap],.agg #[.int .i64 (y.1.val:Int),.slice y.2.a y.2.len y.2.cap]] W λe w'=>e=.returned (.int .i64 (oE x y))/\∃q os',w'=grow (W.drewN q) os':=by
 have b:IntKind.i64.wrap ((x.1.val:Int)-(y.1.val:Int))=oE x y:=by
  have d:=x.1.isLt;have g:=y.1.isLt;unfold oE;exact Ul O O
 go_enter Tryz.func264,Tryz.ntmps264
 go_wp2
 go_ret
 exact⟨rfl,0,_,by rw[alloc_eq_grow,alloc_eq_grow,grow_grow];rfl⟩
theorem y9:SWO (ltOf oE) where
 irrefl x:=by simp[ltOf,oE]
 trans x y z a h2:=by
  have a:=sI a;have h2:=sI h2;unfold oE at a h2;exact zJ (by unfold oE;omega)
 ntrans x y z a h2:=by
  have a:=wT a;have h2:=wT h2;unfold oE at a h2;exact zM (by unfold oE;omega)
def su (x:sO):Nat×Sl:=(x.1.val,x.2)
theorem D0 (l:List sO)(j:Nat)(hj:j<l.length*2):(fE (l.map su))[j]?=some (flatK kA 2 l.toArray)[j]! := by
 rw[get_flatK _ _ _ _ (by simpa using hj)];have a:j/2<l.length:=by omega
 have e1:l.toArray[j/2]! = l[j/2]:=by rw[getElem!_pos _ _ (by simpa using a)];simp
 have b:(l.map su)[j/2]?=some (su l[j/2]):=by simp[a]
 have:=J6 b (d:=j%2) O;rw[show 2*(j/2)+j%2=j by omega]at this;rw[this,e1];have hd:j%2=0\/j%2=1:=by omega
 rcases hd with h|h<;>rw[h]<;>rfl
theorem C1:H4:=by
 intro U F s xs hrow hk hlen R hR;rintro w rfl;have V:s.len=xs.length:=by have:=hrow.1;rw[Kw]at this;omega
 rcases hrow.2 with⟨h0,hc0⟩|⟨b,cs,hF,ha,hb,hle,hcl,ht⟩
 ·have H:xs=[]:=uZ.1 O;have:=AnyF.slices_SortFunc_none Tryz.oZ s.a s.cap (.func (.func 264) #[] #[]) w;show Calls _ _ #[.slice s.a s.len s.cap,.func (.func 264) #[] #[]] w _;rw[h0];refine this.mono ?_;rintro e Y ⟨rfl,rfl⟩;subst H;exact⟨.refl _,[],rfl,hR [] _ (.refl _) List.Pairwise.nil (Ext.refl _ _) hrow⟩
 ·have M:∀x∈xs,x.1<64:=hk
  let toK:Nat×Sl->sO:=λx=>(Fin.ofNat 64 x.1,x.2)
  have u:(xs.map toK).map su=xs:=by
   rw[lb]
   conv=>rhs;rw[←tU xs]
   apply j2;intro x hx;simp only[Function.comp,toK,su,Fin.ofNat,id];rw[uI (M x hx)]
  have G:(xs.map toK).length=xs.length:=by simp
  generalize xs.map toK=l at u G;have A:=hb.lt;have Z:HoldsK kA 2 w b 0 l.toArray:=by
   intro j hj;simp only[size_flatK,yk]at hj;have W:Vc.cell w.heap ⟨b,0+j,none⟩=some (flatK kA 2 l.toArray)[j]! := by
    rw[hb.cell,zH,←D0 l j hj,u];rw[←ht,zj,zC (by rw[Kw];omega)]
   exact⟨W,hb.nu⟩
  have eg:∀args w,(callFunc 264 args).run Tryz.prog w=.ok (.enter 264 args) w:=enters_of Tryz.func264 (by kernel_rfl) rfl;have z:∀w,(isAgg (Tryz.eO.t 24)).run Tryz.prog w=.ok true w:=λw=>by
   have h:=Ky (P:=Tryz.prog) (t:=Tryz.eO.t 24) (d:=(Tryz.prog.underlying (Tryz.eO.t 24)).getD .bool) (by kernel_rfl) w
   rwa [show V2 ((Tryz.prog.underlying (Tryz.eO.t 24)).getD .bool)=true by kernel_rfl]at h
  have L:∀w,(Go.sizeOf (Tryz.eO.t 24)).run Tryz.prog w=.ok 2 w:=λw=>by
   have h:=QD (P:=Tryz.prog) (t:=Tryz.eO.t 24) (by kernel_rfl) w
   rwa [show Tryz.prog.cellsOf (Tryz.eO.t 24)=2 by kernel_rfl]at h
  have B:=AnyQ.slices_SortFunc Tryz.oZ 2 z L kA (λ_=>rfl) (λx v Q=>by simp only[kA,zW,List.not_mem_nil,or_false]at Q;rcases Q with rfl|rfl<;>rfl) oE y9 264 #[] b 0 s.cap l.toArray w eg (λ_ _ _ _ x y=>Bf x y _) Z A (by simp only[yk];omega)
  show Calls _ _ #[.slice s.a s.len s.cap,.func (.func 264) #[] #[]] w _;rw[ha,show s.len=l.toArray.size by simp only[yk];omega];refine B.mono ?_;rintro e Y ⟨rfl,d',n,os,S,K,rfl⟩;have g:d'.size=l.length:=by simpa using S.1
  have r:d'.toList.Perm l:=by
   have E:=S.2.2;rw[show l.toArray.size=d'.size by simp[g]]at E;have e1:(d'.extract 0 d'.size)=d':=by simp
   have e2:(l.toArray.extract 0 d'.size)=l.toArray:=by rw[g];simp
   rw[e1,e2]at E;simpa using E
  obtain⟨X,J⟩:=hb;have m:(sortWorldK kA 2 w b 0 n d' os).heap=(w.heap.modify b (onCells (putCells id 0 (flatK kA 2 d'))))++os:=rfl;have p:(w.heap.modify b (onCells (putCells id 0 (flatK kA 2 d')))).size=w.heap.size:=by simp
  refine⟨⟨rfl,rfl,rfl,by rw[m,yh,p];omega⟩,[],rfl,?_⟩;rw[m];have C:Ext F w.heap ((w.heap.modify b (onCells (putCells id 0 (flatK kA 2 d'))))++os):=by
   refine⟨by rw[yh,p];omega,λq hq hf=>?_⟩;rw[tB (by rw[p];exact hq),uN,zB λ(e:b=q)=>hf (by rw[←e];exact hF)]
  refine hR (d'.toList.map su) _ ?_ ?_ C ⟨?_,.inr ⟨b,(putCells id 0 (flatK kA 2 d') cs.toArray).toList,hF,ha,⟨X,?_⟩,hle,?_,?_⟩⟩
  ·rw[←u];exact r.map _
  ·rw[r8];rw[mc];intro i j hi hj hij;have D:=K i j O hij (by simp only[wm]at hj;simp only[yk];omega);rw[getElem!_pos d' i (by simpa using hi),getElem!_pos d' j (by simpa using hj)]at D;have D:=wT D;unfold oE at D;simp only[su,Array.getElem_toList];omega
  ·rw[Kw,zl,wm,g];omega
  ·rw[tB (by rw[p];exact A),uN,zC rfl,J];simp[onCells]
  ·simp[putCells,hcl]
  ·rw[Kw,zl,wm,g];apply zo;intro j;rw[zj];by_cases hj:j<l.length*2
   ·rw[zC hj,D0 d'.toList j (by simpa[g]using hj)];have N:j<cs.length:=by
     have:l.length*2<=s.cap*2:=lW _ O;omega
    simp only[putCells,wB,Array.getElem?_mapIdx,List.getElem?_toArray,cV N,zX];rw[zC ⟨O,by rw[size_flatK,g];omega⟩];simp
   ·rw[zB hj,zV (by rw[Kw,zl,wm,g];omega)]
end Go.Ar
namespace Go.Proofs
open Go.Vc
set_option maxRecDepth 100000
def XM.h:Hn:=.q .o2 (.q (.q (.cR (.seq [.op,.op,.op,.cX false 3 (RI.ops 3)])) .aK) (.q .o3 (.q (.q .o2 .aK) (.q (.q .o1 (.k (.loop [(8,.I)] (.q (.q .o4 (.c .l .l)) (.q (.k .o6) .o3))))) .aL))))
def XM.v (a b c d e f:Int)(g:Sl)(h:Int)(i:Hp)(j:Option Addr->Hp->Prop):Prop:=aV #[.I a,.I b,.I c,.I d,.I e,.I f] 25 i λk l=>aQ k 0 l λm=>aQ k 1 l λn=>aQ k 2 l λo=>aQ k 3 l λp=>aQ k 4 l λq=>aQ k 5 l λr=>WJ.c m n o p q r l λs t=>bV (λu v=>If u (j none v) (aQ k 0 v λw=>aQ k 1 v λx=>aQ k 2 v λy=>aQ k 3 v λz=>aQ k 4 v λaa=>aQ k 5 v λab=>Xs.c w x y z aa ab v λac ad=>If ac.isNone (j none ad) (Ys [bN] (λae=>ae 0 ad) λaf (ag:Int) ah=>If (ag<((g.len:Nat):Int)) (Ix g.a g.len ag 8 λai=>aQ ai 0 ah λaj=>aQ ai 1 ah λak=>aQ ai 2 ah λal=>aQ ai 3 ah λam=>aQ ai 4 ah λan=>aQ ai 5 ah λao=>aQ ai 6 ah λap=>bC ai 7 ah λaq=>Xf.c ac aj ak al am an ao ap aq ah λar au=>bL (ag+1) λav=>af av au) (j ac ah)))) λaw=>If s (aw true t) (XJ.c g h t λax ay=>aw ax ay)
theorem XM.o {a b c d e f g h i j}(k:XM.v a b c d e f g h i j):XM.c a b c d e f g h i j:=Wa Tryz.func11 (x:=XM.h) (R0 k)
def XJ.h:Hn:=.q .o1 (.q .o5 .l)
def XJ.v (a:Sl)(b:Int)(c:Hp)(d:aO):Prop:=d (decide (((a.len:Nat):Int)>b)) c
theorem XJ.o {a b c d}(e:XJ.v a b c d):XJ.c a b c d:=Wa Tryz.func12 (x:=XJ.h) (R0 e)
def WW.h:Hn:=.q .o1 (.q .o2 (.q (.q .o2 .aK) (.q .o7 (.q (.q (.cR (.seq [.op,.op,.op,.cX false 2 [.op,.op]])) .aK) (.q .o7 (.q (.q (.cR (.seq [.op,.op,.op,.cX false 2 [.op,.op],.op,.cX false 3 (RI.ops 3)])) .aK) (.q .o8 (.q (.q (.cR (.seq [.op,.op,.op,.cX false 4 (RI.ops 4),.op,.cX false 4 (RI.ops 4),.op,.cX false 3 (RI.ops 3)])) .aK) (.q .o6 (.q (.cR (.seq [.op,.op,.op,.cX true 2 [.op,.op],.op,.cX true 4 (RI.ops 4),.op,.cX true 4 (RI.ops 4),.op])) .l))))))))))
def WW.v (a:Hp)(b:aO):Prop:=Xr.c a λc d=>If c.isNone (b false d) (Qu.c c d λe f g=>bV (λh i=>If h (b false i) (Xn.c e 0 24 8 i λj k l=>bV (λm n=>bV (λo p=>If o (b false p) (XA.c e j p λq r s=>bV (λt u=>bV (λv w=>bV (λx y=>If x (b false y) (Xh.c e 4128 7 y λz aa=>Xh.c e 4136 7 aa λab ac=>bV (λad ae=>bV (λaf ag=>bV (λah ai=>b ah ai) λaj=>If af (Xj.c e 0 j ag λak al=>aj (ak==9) al) (aj false ag)) λam=>If ad (Xj.c e 0 j ae λan ao=>am (an==0) ao) (am false ae)) λap=>If (z==0) (ap (ab==7) ac) (ap false ac))) λaq=>If v (aq true w) (Xd.c c 4136 (-4137) w λar au=>aq (ar != 0) au)) λav=>If t (av true u) (Xj.c e 0 j u λaw ax=>av (aw != 10) ax)) λay=>If (r != 0) (ay true s) (aV #[.I 4136] 3 s λaz a0=>XI.c q ⟨some az,1,1⟩ a0 λa1 a2=>ay (!a1) a2))) λa3=>If m (a3 true n) (Xd.c c 4136 5 n λa4 a5=>a3 (a4 != 0) a5)) λa6=>If (j != 4112) (a6 true l) (a6 (k != 0) l))) λa7=>If (f != 0) (a7 true g) (a7 e.isNone g))
theorem WW.o {a b}(c:WW.v a b):WW.c a b:=Wa Tryz.func13 (x:=WW.h) (R0 c)
def YB.h:Hn:=.q .o2 (.q (.q (.cR (.seq [.op,.op,.op,.op,.cX false 3 (RI.ops 3)])) (.c (.q .o3 .l) .l)) (.q (.oq 12) .l))
def YB.v (a:Sl)(b c d e f g h:Int)(i:ByteArray)(j:Hp)(k:aN):Prop:=aV #[.I b,.I c,.I d,.I e,.I f,.I g,.I h,.string i] 44 j λl m=>aQ l 4 m λn=>bV (λo p=>If o (aQ l 5 p λq=>k q p) (aQ l 4 p λr=>Nz ((a.len:Nat):Int) <| Ix a.a a.len (r.tmod ((a.len:Nat):Int)) 1 λs=>bM s p λt=>aQ l 5 p λu=>bL (t+u) λv=>k v p)) λw=>If (n<0) (w true m) (w (((a.len:Nat):Int)==0) m)
theorem YB.o {a b c d e f g h i j k}(l:YB.v a b c d e f g h i j k):YB.c a b c d e f g h i j k:=Wa Tryz.func18 (x:=YB.h) (R0 l)
def Xf.h:Hn:=.q .o2 (.q (.cR (.tail 5 (RI.ops 5) [.op,.op])) (.q (.q .o2 (.k (.q .o2 (.c (.q (.cR (.held true [10] (.tk [0,1,2,3,4,5,6,7,8,9] (.all [(10,.tk [11,12,13,14,15] (.done))])))) (.q (.q .o2 (.c (.q (.o 11) (.cR (.held true [15] (.tk [0,1,2,3,4,5,6,7,8,9,10] (.all [(11,.all [(12,.take 13 (.take 14 (.all [(15,.done)])))])]))))) .l)) .aL)) (.kh [(69,.one .b)] (.q .o2 (.c .l .o2)) (.c (.q (.cR (.tail 7 (RI.ops 7) [.op,.op])) (.q (.q .o2 (.c (.q .o1 (.q (.q .o1 (.k (.loop [(9,.one .s),(10,.I)] (.q (.q .o7 (.c .l .l)) (.q (.k (.q .gH (.c (.o 11) .l))) .o3))))) .o5)) .l)) .aL)) (.q .o2 (.c (.q (.o 11) .aL) (.q .o2 (.c .o5 (.q .o2 (.c (.q (.o 11) .aL) (.q .o2 (.c (.q (.cR (.tail 7 (RI.ops 7) [.op,.op])) .l) (.q .o2 (.c (.q (.o 12) .aL) .l)))))))))))))))) .aM))
def Xf.v (a:R2)(b c d e f g h:Int)(i:ByteArray)(j:Hp)(k:aN):Prop:=aV #[.I b,.I c,.I d,.I e,.I f,.I g,.I h,.string i] 44 j λl m=>bE a 1 m λo=>aQ l 0 m λp=>aQ l 1 m λq=>aQ l 2 m λr=>aQ l 3 m λs=>aQ l 4 m λt=>aQ l 5 m λu=>aQ l 6 m λv=>bC l 7 m λw=>YB.c o p q r s t u v w m λx y=>aQ l 0 y λz=>If (z==20) (eI y λaa=>bU a λab=>aU aa ab 0 λac=>aS aa l 1 λad=>aS aa l 2 λae=>aS aa l 3 λaf=>Xn.c ac ad ae af y λag ah ai=>If (ah==0) (bE a 1 ai λak=>aV #[.I ag] 3 ai λal am=>App ak 1 8 3 [.I 0] ⟨some al,1,1⟩ am λan ao=>bU a λap=>aR ap 1 (.slice an.a an.len an.cap) ao λaq=>eI aq λar=>bU a λau=>aT ar au 2 λav=>aS ar l 2 λaw=>aS ar l 3 λax=>aV #[.I ag,.I aw,.I ax] 60 aq λay az=>And (ar az) <| App av 3 24 60 [.I 0,.I 0,.I 0] ⟨some ay,1,1⟩ az λa0 a1=>And (ar a1) <| bU a λa2=>aR a2 2 (.slice a0.a a0.len a0.cap) a1 λa3=>k ah a3) (k ah ai)) (Jn [.b] (λ(a4:Bool) a5=>If a4 (bF a 0 a5 λa7=>aQ l 1 a5 λa8=>Xj.c a7 a8 x a5 λa9 ba=>If (a9==0) (Ys [.s,bN] (λbb=>bb ⟨none,0,0⟩ 0 ba) λbc (bd:Sl) (be:Int) bf=>bE a 2 bf λbh=>
 If (be<((bh.len:Nat):Int)) (bE a 2 bf λbj=>Ix bj.a bj.len be 3 λbk=>aQ bk 0 bf λbl=>If (bl != x) (bE a 2 bf λbn=>Ix bn.a bn.len be 3 λbo=>aQ bo 0 bf λbp=>aQ bo 1 bf λbq=>aQ bo 2 bf λbr=>aV #[.I bp,.I bq,.I br] 60 bf λbs bt=>App bd 3 24 60 [.I 0,.I 0,.I 0] ⟨some bs,1,1⟩ bt λbu bv=>bL (be+1) λbw=>bc bu bw bv) (bL (be+1) λbx=>bc bd bx bf)) (bU a λbz=>aR bz 2 (.slice bd.a bd.len bd.cap) bf λb0=>k a9 b0)) (k a9 ba)) (If (z==23) (bF a 0 a5 λb2=>XA.c b2 x a5 λb3 b4 b5=>k b4 b5) (If (z==24) (bF a 0 a5 λb7=>Yi.c b7 a5 λb8 b9=>k 0 b9) (If (z==25) (bF a 0 a5 λcb=>YC.c cb x a5 λcc cd ce=>k cd ce) (If (z==26) (bF a 0 a5 λcg=>aQ l 6 a5 λch=>Xh.c cg x ch a5 λci cj=>k ci cj) (If (z==27) (bF a 0 a5 λcl=>WE.c cl x a5 λcm cn co cp cq cr=>aV #[.I 0,.I 0,.I 0,.I 0] 52 cr λcs ct=>aR cs 0 (.I cm) ct λcu=>aR cs 1 (.I cn) cu λcv=>aR cs 2 (.I co) cv λcw=>aR cs 3 (.I cp) cw λcx=>k cq cx) (k 0 a5))))))) λcy=>If (z==21) (cy (z==21) y) (cy (z==22) y))
theorem Xf.o {a b c d e f g h i j k}(l:Xf.v a b c d e f g h i j k):Xf.c a b c d e f g h i j k:=Wa Tryz.func19 (x:=Xf.h) (R0 l)
def Xr.h:Hn:=.q .o1 (.q .o4 .l)
def Xr.v (a:Hp)(b:Option Addr->Hp->Prop):Prop:=Wv.c 8 64 1 1 1024 2 a λc d=>b c d
theorem Xr.o {a b}(c:Xr.v a b):Xr.c a b:=Wa Tryz.func37 (x:=Xr.h) (R0 c)
def WJ.h:Hn:=.q .o2 (.q .o5 .l)
def WJ.v (a b c d e f:Int)(g:Hp)(h:aO):Prop:=aV #[.I a,.I b,.I c,.I d,.I e,.I f] 25 g λi j=>bM ((i.add 1).add 0) j λk=>h (decide (k>128)) j
theorem WJ.o {a b c d e f g h}(i:WJ.v a b c d e f g h):WJ.c a b c d e f g h:=Wa Tryz.func38 (x:=WJ.h) (R0 i)
def Xs.h:Hn:=.q .o2 (.q .o3 (.q (.q .o2 .aK) (.q .o7 (.q (.q (.cR (.seq [.op,.op,.op,.cX false 2 [.op,.op]])) .aK) (.q .o4 .l)))))
def Xs.v (a b c d e f:Int)(g:Hp)(h:Option Addr->Hp->Prop):Prop:=aV #[.I a,.I b,.I c,.I d,.I e,.I f] 25 g λi j=>aQ i 0 j λk=>aQ i 1 j λl=>aQ i 2 j λm=>aQ i 3 j λn=>aQ i 4 j λo=>aQ i 5 j λp=>Wv.c k l m n o p j λq r=>If q.isNone (h none r) (Qu.c q r λs t u=>bV (λv w=>If v (h none w) (aV #[.pointer s,.slice none 0 0,.slice none 0 0] 37 w λx y=>h (some x) y)) λz=>If (t != 0) (z true u) (z s.isNone u))
theorem Xs.o {a b c d e f g h}(i:Xs.v a b c d e f g h):Xs.c a b c d e f g h:=Wa Tryz.func39 (x:=Xs.h) (R0 i)
def Wv.h:Hn:=.q .o2 (.q .o8 (.q .o9 (.q (.q .o2 .aK) .aL)))
def Wv.v (a b c d e f:Int)(g:Hp)(h:Option Addr->Hp->Prop):Prop:=aV #[.I a,.I b,.I c,.I d,.I e,.I f] 25 g λi j=>aQ i 0 j λk=>WR.c k j λl m n=>bM ((i.add 1).add 0) n λo=>bM ((i.add 1).add 1) n λp=>bM ((i.add 1).add 2) n λq=>bM ((i.add 1).add 3) n λr=>bM ((i.add 1).add 4) n λs=>Kn.c l o p q r s n λt u v=>If (u != 0) (h none v) (h t v)
theorem Wv.o {a b c d e f g h}(i:Wv.v a b c d e f g h):Wv.c a b c d e f g h:=Wa Tryz.func69 (x:=Wv.h) (R0 i)
end Go.Proofs
namespace Go.Ar
open Go Go.Vc Go.Proofs
variable {U w w':Hp}{F P Q:Rg}{L:dK}{H H':Hw}{held:List Pc}{s0:Sp}{t n:Nat}{g:Th}
structure fP where
 kd:Int
 th:Int
 a:Int
 b:Int
 of:Int
 pl:Int
 va:Int
 s:ByteArray
def qu (d:fP):List Value:=[.int .i64 d.kd,.int .i64 d.th,.int .i64 d.a,.int .i64 d.b,.int .i64 d.of,.int .i64 d.pl,.int .i64 d.va,.string d.s]
def kU (x:Int):Prop:=-9223372036854775808<=x/\x<=9223372036854775807
structure lT (d:fP):Prop where
 a:kU d.a
 b:kU d.b
 pl:kU d.pl
 va:kU d.va
structure jr (U:Hp) (sl:Sl) (ds:List fP):Prop where
 len:sl.len=ds.length
 at_:∀(i:Nat) (d:fP),ds[i]?=some d->∃b o,sl.a=some ⟨b,o,none⟩/\b<U.size/\∀(j:Nat) v,(qu d)[j]?=some v->cell U ⟨b,o+i*8+j,none⟩=some v
 i:∀d∈ds,lT d
 xH:ds.length<=9223372036854775807
theorem jr.bO {sl:Sl}{ds:List fP}(h:jr U sl ds)(e:bK U w):jr w sl ds:=⟨h.len,λi d p=>by
 obtain⟨b,o,a,g,r⟩:=h.at_ i d p;exact⟨b,o,a,by have:=e.1;omega,λj v m=>by rw[Q8 e g id];exact r j v m⟩,h.i,h.xH⟩
theorem jr.rd {sl:Sl}{ds:List fP}(h:jr U sl ds)(e:bK U w){i:Nat}{d:fP}(hx:ds[i]?=some d){K:Addr->Prop}(hK:∀b o,(∀w',bK U w'->∀(j:Nat) v,(qu d)[j]?=some v->cell w' ⟨b,o+j,none⟩=some v)->K ⟨b,o,none⟩):Ix sl.a sl.len (i:Int) 8 K:=by
 obtain⟨b,o,m,r,u⟩:=h.at_ i d hx;have x:=(cW.1 hx).1;have g:=h.len;rw[m];refine ix O O ?_;rw[add_lit,dE];exact hK b _ λw' p j v s=>by rw[Q8 p r id];exact u j v s
theorem AB {b o i:Nat}{h:Hp}{x:ByteArray}{K:ByteArray->Prop}(hc:cell h ⟨b,o+i,none⟩=some (.string x))(hK:K x):vP (Addr.add ⟨b,o,none⟩ i) h K:=⟨x,by rw[add_lit];exact hc,hK⟩
theorem _root_.Go.Vc.bX.rT {b o i:Nat}{cs:List Value}(hb:bX U b cs){x:ByteArray}{K:ByteArray->Prop}(hc:cs[o+i]?=some (.string x))(hK:K x):vP (Addr.add ⟨b,o,none⟩ i) U K:=⟨x,by rw[add_lit,hb.cell];exact hc,hK⟩
def rp (ad:List Int)(d:fP):Int:=if d.of<0\/ad=[]then d.pl else IntKind.i64.wrap (ad.getD (d.of.toNat%ad.length) 0+d.pl)
theorem MG {ad:List Int}{d:fP}(h:lT d):kU (rp ad d):=by
 unfold rp;split
 ·exact h.pl
 ·exact OO _
theorem PF {addrs:Sl}{ad:List Int}(hs:cU addrs 1 (Wo ad) U F)(d:fP){R:aN}(hR:∀σ',bK U σ'->R (rp ad d) σ'):YB.c addrs d.kd d.th d.a d.b d.of d.pl d.va d.s U R:=by
 refine YB.o ?_;unfold YB.v;have z:addrs.len=ad.length:=by have:=hs.1;simp[Wo]at this;omega
 refine nw (cs:=qu d) λv D e j=>j.rI rfl (KF (λr w=>w=v/\r=decide (d.of<0\/ad=[])) (λr w ⟨B,y⟩=>?_) λJ A=>cQ (λm=>A _ _ ⟨rfl,by rw[zJ (.inl m)]⟩) λm=>A _ _ ⟨rfl,?_⟩)
 ·subst B;have g:=hR w e;by_cases hc:d.of<0\/ad=[]
  ·refine cD (by rw[y];exact zJ hc) (j.rI rfl ?_);unfold rp at g;rw[zC hc]at g;exact g
  ·have i:0<ad.length:=pC.2 λh=>hc (.inr h);refine cB (by rw[y];exact zM hc) (j.rI rfl (nz O ?_));have u:0<=d.of:=by omega
   have C:d.of.tmod (addrs.len:Int)=((d.of.toNat%ad.length:Nat):Int):=by
    rw[Qg u,z,Int.natCast_emod,Int.toNat_of_nonneg u]
   rw[C];have p:d.of.toNat%ad.length<ad.length:=ug _ i;have x:ad[d.of.toNat%ad.length]?=some ad[d.of.toNat%ad.length]:=cV p;refine(cU.loc _ _ _ |>.bO (aH.cut hs) e).nc x (j.rI rfl (tT ?_));unfold rp at g;rw[zB hc,zP,x]at g;exact g
 ·rw[z];rw[l3];simp only[zT,zU];constructor
  ·intro h;exact .inr (uZ.1 O)
  ·rintro(h|h)
   ·exact(m h).elim
   ·rw[h];rfl
theorem SB {l:Sl}{most:Int}{R:aO}(hR:R (decide ((l.len:Int)>most)) U):XJ.c l most U R:=by
 refine XJ.o ?_;unfold XJ.v;exact hR
theorem Rc {xs:List (Int×Int×Int)}(h:Qe xs=true):(xs.map Z0).map mb=xs:=by
 rw[lb]
 conv=>rhs;rw[←tU xs]
 apply j2;intro t ht;obtain⟨i,b⟩:=zQ ht;have:=((Qb xs).1 h).2.2.1 i t b;obtain⟨c,_,g,a,e,d⟩:=Gh this;simp only[Function.comp,id];rw[show Z0 t=c from g];unfold mb;rw[←a,←e,←d]
theorem Oe {xs:List (Int×Int×Int)}(h:Qe xs=true):(xs.map Z0).length<=40/\∀c∈xs.map Z0,c.ok:=by
 refine⟨by have:=((Qb xs).1 h).2.1;simpa using this,λc d=>?_⟩;obtain⟨t,e,rfl⟩:=zE.1 d;obtain⟨i,b⟩:=zQ e;have:=((Qb xs).1 h).2.2.1 i t b;obtain⟨c,a,g,_⟩:=Gh this;rw[show Z0 t=c from g];exact a
structure tj (H:Hw) (aF:Int):Prop where
 hi:HI H [] (K0 H.cf.aF)
 cf:lh H
 pg:(H.cf.aF:Int)=aF
 live:H.live=[]
 ph:∀g∈H.bQ,g.ph=none
 th:1<=H.cf.threads
theorem DM {xs:List (Int×Int×Int)}{p a t b r:Int}(h:Qe xs=true)(hc:q9 p a t b r=true):tj (VJ (xs.map Z0) ⟨p.toNat,a.toNat,t.toNat,b.toNat,r.toNat⟩) p:=by
 obtain⟨⟨y,w,u⟩,⟨s,j⟩,⟨m,x⟩,_⟩:=(F6 p a t b r).1 hc;obtain⟨d,e⟩:=Oe h;refine⟨Pn (cf:=⟨p.toNat,a.toNat,t.toNat,b.toNat,r.toNat⟩) aC aC aC aC d e,⟨by simp only[VJ];omega,by simp[VJ],?_⟩,by simp only[VJ];omega,rfl,λg i=>by rw[yU i],by simp only[VJ];omega⟩;show Qe ((xs.map Z0).map mb)=true;rw[Rc h];exact h
theorem Jy (g:Gl U)(gd:Gd U)(b b1 b2 b3 b4 b5:Int){R:Option Addr->Hp->Prop}(h0:∀σ',bK U σ'->R none σ')
 (h1:∀σ' L N H,bK U σ'->U.size<=N->N<=σ'.size->HH σ' (λb=>N<=b) L H->tj H b1->R (some ⟨L.p,0,none⟩) σ'):Wv.c b b1 b2 b3 b4 b5 U R:=by
 refine Wv.o ?_;unfold Wv.v;refine nw (cs:=[.int .i64 b,.int .i64 b1,.int .i64 b2,.int .i64 b3,.int .i64 b4,.int .i64 b5]) λv E e j=>j.rI rfl ?_;by_cases hw:2<=b/\b<=16
 ·refine DU b hw.1 hw.2 λs C e1 w=>?_;have a:=e1.bT j id;have d:=e.trans e1;have m:Qe (pT b)=true:=by
   have:=Hl b.toNat O O;rw[show((b.toNat:Nat):Int)=b by omega]at this;exact this
  refine a.eY rfl (a.eY rfl (a.eY rfl (a.eY rfl (a.eY rfl ?_))));refine B3 w (g.bO d) (gd.bO d) b1 b2 b3 b4 b5 (λr=>by rw[m]at r;cases r) (λ_ A u e2=>?_) λ_ A u L e2 B=>?_
  ·exact cD rfl (h0 u (d.trans e2))
  ·exact cB rfl (h1 u L C.size _ (d.trans e2) d.1 e2.1 B (DM m A))
 ·refine Ro b O (j.eY rfl (j.eY rfl (j.eY rfl (j.eY rfl (j.eY rfl ?_)))));have w:ic v ⟨none,0,0⟩ []:=⟨rfl,λi x y z D=>by simp at D⟩;refine B3 w (g.bO e) (gd.bO e) b1 b2 b3 b4 b5 (λ_ u e2=>cD rfl (h0 u (e.trans e2))) (λm=>?_) λm=>?_
  ·exact absurd m aB
  ·exact absurd m aB
def Safe (H:Hw)(d:fP)(x:Int)(e:Int×Bk):Prop:=(∀j,fG H j≠some (.find e.1))/\¬((d.kd=3\/d.kd=1\/d.kd=6)/\e.1<=x/\x<e.1+e.2.2.1)
structure qF (H:Hw) (d:fP) (x:Int) (H':Hw):Prop where
 hi:∃held s0,HI H' held s0
 kp:Qt H' H
 fx:∀e∈H.live,Safe H d x e->e∈H'.live/\(∀w:Nat,e.1<=((8*w:Nat):Int)->((8*w:Nat):Int)<e.1+e.2.2.1->H'.sp.wd w=H.sp.wd w)/\∀j,fG H' j≠some (.find e.1)
theorem qF.op (h:HI H held s0){d:fP}{x:Int}(o:fX H H')(hl:∀e∈H.live,Safe H d x e->e∈H'.live):qF H d x H':=
 ⟨o.hi,o.kp,λe a b=>⟨hl e a b,h.kl o.ks e a,λj=>by rw[o.ph];exact b.1 j⟩⟩
theorem qF.ar {d:fP}{x:Int}(o:mD H H'):qF H d x H':=
 ⟨o.hi,o.kp,λe a b=>⟨by rw[o.live];exact a,o.kl e a,λj=>by unfold fG;rw[o.bQ];exact b.1 j⟩⟩
theorem HI.rF (h:HI H held s0){e:Int×Bk}(he:e∈H.live):8<=e.2.2.1/\0<=e.1/\e.1%8=0/\e.2.2.1%8=0/\e.1+e.2.2.1<=270000:=by
 obtain⟨_,p,d,F,z,E,J,_⟩:=h.lv e he;have C:=h.xy.size_pos d;have G:=h.xy.jE d;obtain⟨A,y,hd⟩:=h.xy.hf p d;have D:p.addr%8=0:=by
  rcases hd with⟨_,_,r,hr,c2,c3⟩|⟨j,c,c1,c2,c3,c4,_⟩
  ·omega
  ·obtain⟨a,x,b,w⟩:=c4;have:a=c:=Option.some.inj (b.1.symm.trans c2);subst this;have m:=(h.xy.ga _ A y).cE j a x b;obtain⟨l,s,i,B,K,e,_⟩:=(Vu m).1 w;have g:=m.ok;unfold bZ.ok at g;unfold at_ at e;have u:a.size=8*(a.size/8):=by omega
   have:i*a.size=8*(i*(a.size/8)):=by rw[Nat.mul_left_comm,←u]
   omega
 omega
theorem qF.free (h:HI H held s0){d:fP}{x thread e:Int}(hd:d.kd=1)(o:fX H H')(hf:oQ H thread x H' e):qF H d x H':=by
 refine qF.op h o λi a g=>?_;have j:=h.rF a;rcases hf with⟨_,h2,_⟩|⟨_,_,_,h4⟩|⟨_,b,_,_,h4⟩
 ·rw[h2];exact a
 ·rw[h4];exact a
 ·rw[h4];refine Gf.2 ⟨a,λm=>g.2 ⟨.inr (.inl hd),O,O⟩⟩
theorem qF.step (h:HI H held s0){d:fP}{x:Int}(hg:H.bQ[t]?=some g){p:Ph}(hp:g.ph=some p):qF H d x (Qr H t p):=by
 have G:=(cW.1 hg).1;have s:=h.LO hg hp;have w:fG H t=some p:=by unfold fG;rw[hg];exact hp
 have live:∀e∈H.live,p≠.find e.1->e∈(Qr H t p).live:=λe i E=>by
  by_cases hf:k7 p
  ·obtain⟨_,_,_,J,r⟩:=p8 h hg hp hf;by_cases u:∃y,p=.find y
   ·obtain⟨y,rfl⟩:=u;cases hm:bW H.live y with
    | none=>rw[((r y rfl).1 hm).2.2];exact i
    | some b=>
     rw[((r y rfl).2 b hm).2];exact Gf.2 ⟨i,λa=>E (by rw[a])⟩
   ·rw[(J λy a=>u ⟨y,a⟩).2];exact i
  ·obtain⟨cl,K,A⟩:=AI h hg hp hf;obtain⟨_,m⟩:=pW h hg hp A;rcases m with⟨_,_,_,e2,_⟩|⟨_,_,_,e4⟩|⟨_,_,e3,e4⟩
   ·rw[e2];exact i
   ·rw[e4];exact i
   ·rw[e4];exact(H8 e3).2 (.inl i)
 have C:∀y,(Wt H t p).2.1≠some (.find y):=λy a=>by
  by_cases hf:k7 p
  ·obtain⟨_,_,m,_⟩:=p8 h hg hp hf;rcases m with⟨p',D,e1,_,e3,_⟩|e1
   ·rw[e1]at a;exact e3 y (Option.some.inj a)
   ·rw[e1]at a;cases a
  ·obtain⟨cl,K,A⟩:=AI h hg hp hf;obtain⟨_,m⟩:=pW h hg hp A;rcases m with⟨p',D,e1,_,_,e4,_⟩|⟨e1,_⟩|⟨e1,_⟩
   ·rw[e1]at a;cases a;exact e4.elim
   ·rw[e1]at a;cases a
   ·rw[e1]at a;cases a
 refine⟨s.hi,Ur H t p,λe i F=>⟨live e i λu=>F.1 t (by rw[w,u]),h.kl s.ks e i,λj=>?_⟩⟩;by_cases hj:j=t
 ·subst hj;obtain⟨D,z,B⟩:=UO (p:=p) G;unfold fG;rw[z];show D.ph≠_;rw[B];exact C _
 ·unfold fG;rw[V0 p hj];exact F.1 j
end Go.Ar
namespace Go.Ar
open Go Go.Vc Go.Proofs
variable {U w w':Hp}{F P Q X:Rg}{L:dK}{H H':Hw}{held:List Pc}{s0:Sp}{t n:Nat}{g:Th}
structure gZ (σ0 U:Hp) (L:dK) (H:Hw) (held:List Pc) (s0:Sp) (P Q:Rg) (addrs:Sl) (ad:List Int):Prop where
 e:bK σ0 U
 h:HH U P L H
 hi:HI H held s0
 cf:lh H
 pg:H.cf.aF<=128
 pP:∀b,P b->σ0.size<=b/\b<U.size
 pQ:∀b,Q b->σ0.size<=b/\b<U.size/\¬P b
 row:bR addrs 1 (Wo ad) U Q
 al:ad.length<=60
 g0:iR (λb=>σ0.size<=b)/\¬σ0.size<=1
variable {σ0:Hp}{addrs:Sl}{ad:List Int}
theorem gZ.step (p:gZ σ0 U L H held s0 P Q addrs ad){ts':List eH}(e:Ext P U w)(h':HH w (Grow P U) {L with ts:=ts'} H'){held':List Pc}{s0':Sp}(hi':HI H' held' s0')(k:Qt H' H) :
 gZ σ0 w {L with ts:=ts'} H' held' s0' (Cut (Grow P U) w) Q addrs ad:=by
 have s:=e.1;refine⟨Ext.dT p.e e λb a=>.inr (p.pP b a).1,h'.cut,hi',p.cf.bS k,by rw[k.2.1];exact p.pg,λb a=>⟨?_,a.2⟩,λb a=>?_,aI.bS p.row e λb _ d g=>(p.pQ b d).2.2 g,p.al,p.g0⟩
 ·have:=p.e.1;rcases a.1 with h1|h1
  ·exact(p.pP b h1).1
  ·omega
 ·obtain⟨m,r,j⟩:=p.pQ b a;exact⟨m,O,λi=>by
   rcases i.1 with h1|h1
   ·exact j h1
   ·omega⟩
theorem gZ.out (p:gZ σ0 U L H held s0 P Q addrs ad){T:Rg}(e:Ext T U w)(hT:∀b,b<U.size->T b->¬P b/\¬Q b/\σ0.size<=b):gZ σ0 w L H held s0 P Q addrs ad:=by
 have r:=e.1;have g:Ext (λb=>T b/\b<U.size) U w:=⟨e.1,λb a m=>e.2 b a λd=>m ⟨d,a⟩⟩;refine⟨Ext.dT p.e g λb a=>.inr (hT b a.2 a.1).2.2,p.h.bS g (λb a j d=>(hT b a d.1).1 j) (λb a=>?_) (λa=>?_),p.hi,p.cf,p.pg,λb a=>⟨(p.pP b a).1,by have:=(p.pP b a).2;omega⟩,λb a=>⟨(p.pQ b a).1,by have:=(p.pQ b a).2.1;omega,(p.pQ b a).2.2⟩,aI.bS p.row g λb a i d=>(hT b a d.1).2.1 i,p.al,p.g0⟩
 ·exact p.g0.1 b (hT b a.2 a.1).2.2
 ·exact p.g0.2 (hT _ a.2 a.1).2.2
theorem Cm (hr:bR addrs 1 (Wo ad) U Q)(hl:ad.length<=1000000)(x:Int){e t:Nat}{K:Sl->Hp->Prop}(hK:∀s' w,Ext Q U w->bR s' 1 (Wo (ad++[x])) w (λb=>Q b\/U.size<=b/\b<w.size)->K s' w) :
 Nw (.cells #[.int .i64 x] t (0,0)) U λn v=>App addrs 1 8 e [.int .i64 0] ⟨some n,1,1⟩ v K:=by
 have p:addrs.len=ad.length:=by have:=hr.1;simp[Wo]at this;omega
 refine bR.push (F:=λb=>Q b\/U.size<=b) (vs:=[.int .i64 x]) (aI.mono hr λb _ a=>.inl a) (λb a=>.inr a) rfl rfl (by simp[dQ]) O O λs' w j g m=>hK s' w ⟨g.1,λb a i=>g.2 b a λd=>d.elim i λd=>O⟩ ?_;have:Wo (ad++[x])=Wo ad++[.int .i64 x]:=by simp[Wo]
 rw[this];refine aI.mono (aI.cut m) λb a d=>?_;rcases d.1 with h1|h1
 ·exact .inl h1
 ·exact .inr ⟨h1,a⟩
end Go.Ar
namespace Go.Ar
open Go.Vc (bW dB cS)
def i63 (x:Int):Bool:=decide (x<=9223372036854775807)
def pG (H:Hw)(t:Nat):Ph->Bool
 | .take k=>decide (k<H.tb.length)&&(match QY (H.cls k) ((H.jR t).li k)with
  | (some y,_)=>i63 y
  | (none,_)=>true)
 | .cH k _=>decide (k<H.tb.length)&&(ZW (H.eA t) (k:Int) != 0 || !(Yq (H.eA t) (k:Int)).isEmpty)
 | .cJ _ _=>true
 | .grow _ _=>true
 | .fill=>match (H.jR t).bP with
  | (k,x::xs)::_=>decide (k<H.tb.length)&&(i63 x&&decide (((H.jR t).li k).os.length+xs.length<=256))
  | _=>false
 | .eD m=>decide (ZU (H.eA t) H.sp (m:Int) 1<=1000000)
 | .find x=>i63 x&&((bW H.live x).isSome&&decide (0<=x))
 | .put k _=>decide (k<H.tb.length) && !(H.jR t).bP.isEmpty
 | .back=>match (H.jR t).bP with
  | (_,xs)::_=>(xs.all λx=>i63 x&&decide (0<=XO H.bY x))&&decide (xs.length<=1000000)
  | _=>false
 | .dC _ a=>decide (0<=a)&&(decide (a.toNat<H.bY.length)&&H.bY.all λA=>A.runs.all λr=>decide (r.1<=1000000))
 | .drain=>true
theorem yD {x:Int}(h:i63 x=true):iE x:=by
 unfold i63 at h;unfold iE;exact sI h
theorem Sh {H:Hw}{t:Nat}{p:Ph}(h:pG H t p=true):tO H t p:=by
 cases p with
 | take k=>
  simp only[pG,zF,zU]at h;refine⟨h.1,λy l u=>?_⟩;have e:=h.2;rw[u]at e;exact yD e
 | cH k w=>
  simp only[pG,zF,zU,nb]at h;refine⟨h.1,λi d=>?_⟩;rw[i,d]at h;simp at h
 | cJ k w=>trivial
 | grow k w=>trivial
 | fill=>
  simp only[pG]at h;split at h
  ·rename_i k x xs r hh;simp only[zF,zU]at h;exact⟨k,x,xs,r,hh,h.1,yD h.2.1,h.2.2⟩
  ·cases h
 | eD m=>
  simp only[pG,zU]at h;exact h
 | find x=>
  simp only[pG,zF,zU]at h;exact⟨yD h.1,λj=>by rw[j]at h;simp at h,λb _=>h.2.2⟩
 | put k x=>
  simp only[pG,zF,zU]at h;exact⟨h.1,λd=>by rw[d]at h;simp at h⟩
 | back=>
  simp only[pG]at h;split at h
  ·rename_i k xs r hh;simp only[zF,zU,j5]at h;exact⟨k,xs,r,hh,λx g=>⟨yD (h.1 x g).1,(h.1 x g).2⟩,h.2⟩
  ·cases h
 | dC s a=>
  simp only[pG,zF,zU,j5]at h;exact⟨h.1,h.2.1,h.2.2⟩
 | drain=>trivial
def oA:Nat->Hw->Nat->Ph->Option (Hw×Int×Int)
 | 0,_,_,_=>none
 | n+1,H,t,p=>if pG H t p&&decide ((H.jR t).bP.length<=900)then(match (Wt H t p).2.1 with
  | none=>some (Qr H t p,(Wt H t p).2.2.1,(Wt H t p).2.2.2)
  | some p'=>oA n (Qr H t p) t p')else none
theorem El:∀{n:Nat} {H:Hw} {t:Nat} {p:Ph} {r:Hw×Int×Int},oA n H t p=some r->∃m,iC m H t p r.1 r.2.1 r.2.2
 | 0,_,_,_,_,h=>by simp[oA]at h
 | n+1,H,t,p,r,h=>by
  rw[oA]at h;split at h
  ·rename_i hc;simp only[zF,zU]at hc;have hok:uo H t p:=⟨Sh hc.1,λg a=>by rw[←HV a];exact hc.2⟩;split at h
   ·rename_i hn;cases h;exact⟨1,.done hok hn⟩
   ·rename_i p' hs;obtain⟨m,b⟩:=El h;exact⟨m+1,.next hok hs b⟩
  ·cases h
def yo (H:Hw)(thread kind size align addr:Int):Option (Hw×Int×Int):=match Kd H thread kind size align addr with
 | .inl e=>if e=0 then none else some (H,0,e)
 | .inr (t,p)=>oA 40 (eN H t (some p)) t p
theorem Nx {H:Hw}{thread kind size align addr:Int}{r:Hw×Int×Int}(h:yo H thread kind size align addr=some r):Uf H thread kind size align addr r.1 r.2.1 r.2.2:=by
 unfold yo at h;split at h
 ·rename_i e he;split at h
  ·cases h
  ·rename_i hne;cases h;exact .inl ⟨he,hne,rfl,rfl⟩
 ·rename_i t p he;obtain⟨m,a⟩:=El h;exact .inr ⟨t,p,m,he,a⟩
def Fh:List bZ:=(pT 8).map Z0
def w0:Hw:=VJ Fh ⟨64,1,1,1024,2⟩
theorem wL:VJ ((pT 8).map Z0) ⟨(64:Int).toNat,(1:Int).toNat,(1:Int).toNat,(1024:Int).toNat,(2:Int).toNat⟩=w0:=rfl
end Go.Ar
namespace Go.Ar
open Go Go.Vc Go.Proofs
variable {U u u':Hp}{F:Rg}{L:dK}{H H':Hw}{N:Nat}
attribute [local irreducible] w0 Fh
theorem Ov (g:Gl U)(gd:Gd U){R:Option Addr->Hp->Prop}(hR:∀σ' L N,bK U σ'->U.size<=N->N<=σ'.size->HH σ' (λb=>N<=b) L w0->R (some ⟨L.p,0,none⟩) σ'):Xr.c U R:=by
 refine Xr.o ?_;unfold Xr.v;refine Wv.o ?_;unfold Wv.v;refine nw (cs:=[.int .i64 8,.int .i64 64,.int .i64 1,.int .i64 1,.int .i64 1024,.int .i64 2]) λv y e j=>j.rI rfl ?_;refine DU 8 aB aB λs r e1 u=>?_;have a:=e1.bT j id;have d:=e.trans e1;refine a.eY rfl (a.eY rfl (a.eY rfl (a.eY rfl (a.eY rfl ?_))));refine B3 u (g.bO d) (gd.bO d) 64 1 1 1024 2 (λm=>?_) (λ_ x=>?_) λ_ _ w L e2 i=>?_
 ·have:=Hl 8 aB aB;rw[show((8:Nat):Int)=8 from rfl]at this;rw[this]at m;cases m
 ·exact absurd x aB
 ·rw[wL]at i;exact cB rfl (hR w L r.size (d.trans e2) d.1 e2.1 i)
end Go.Ar
namespace Go.Proofs
open Go.Vc
set_option maxRecDepth 100000
def Xn.h:TX:=.nx (.o 3) (.nx (.seq (.o 3) (.cond (.seq (.o 2) (.leaf)) (.leaf))) (.nx (.seq (.cR (.seq [.op,.op,.op,.cX false 2 [.op,.op],.op,.cX false 2 [.op,.op],.op,.cX false 2 [.op,.op],.op,.cX false 5 [.op,.op,.op,.op,.op]])) (.cond (.seq (.o 2) (.leaf)) (.leaf))) (.nx (.o 3) (.nx (.o 5) (.nx (.cR (.held true [] (.take 0 (.take 1 (.take 2 (.take 3 (.take 4 (.take 5 (.take 6 (.take 10 (.all [(7,.take 8 (.take 9 (.all [(11,.take 12 (.take 13 (.take 14 (.take 15 (.take 16 (.done))))))])))]))))))))))) (.nx (.seq (.o 2) (.cond (.seq (.o 3) (.leaf)) (.leaf))) (.nx (.o 8) (.nx (.o 16) (.nx (.o 12) (.r1 (.o 2) bN (.block (.cR (.held true [] (.take 0 (.take 1 (.take 2 (.take 3 (.take 4 (.take 5 (.all [(6,.all [(7,.done)])])))))))))) (.seq (.o 3) (.seq (.cR (.held true [8] (.take 0 (.take 1 (.take 2 (.take 3 (.take 4 (.take 5 (.take 6 (.take 7 (.all [(8,.done)]))))))))))) (.seq (.o 5) (.leaf))))))))))))))
def Xn.v (a:R2)(b c d:Int)(e:Hp)(f:Int->Int->Hp->Prop):Prop:=aV #[.pointer a] 33 e λg h=>fT g h λi=>WH.c i h λj k=>If (!j) (f 0 5 k) (bV (λl m=>bV (λn o=>bV (λp q=>bV (λr s=>If r (f 0 1 s) (aV #[.I 0,.I 0,.I 0,.I 0,.I 0] 95 s λt u=>aR t 0 (.I 0) u λv=>aR t 1 (.I c) v λw=>aR t 2 (.I 0) w λx=>aR t 3 (.I 0) x λy=>aR t 4 (.I 0) y λz=>eI z λaa=>gE aa .p g λ(ab:R2)=>bU ab λac=>aU aa ac 0 λad=>aS aa t 0 λae=>aS aa t 1 λaf=>aS aa t 2 λag=>aS aa t 3 λah=>aS aa t 4 λai=>Xg.c ae af ag ah ai z λaj ak=>And (aa ak) <| bL ((if 16>d then 16 else d)+aj) λal=>bL (al+16) λam=>YP.c ad b am (if 16>d then 16 else d) ak λan ao ap=>And (aa ap) <| If (ao != 0) (f 0 ao ap) (fT g ap λaq=>bD aq 3 ap λau=>bL (au+1) λav=>bU aq λaw=>aR aw 3 (.I av) ap λax=>fT g ax λay=>bD ay 3 ax λa0=>bL (an+(if 16>d then 16 else d)) λa1=>aR t 4 (.I a0) ax λa2=>dN ((t.add 0).add 2) (.I an) a2 λa3=>dN ((t.add 0).add 0) (.I a1) a3 λa4=>fT g a4 λa5=>bF a5 0 a4 λa7=>Xv.c a7 an a4 λa8 a9 ba=>dN ((t.add 0).add 3) (.I a8) ba λbb=>aQ t 0 bb λbc=>aQ t 1 bb λbd=>aQ t 2 bb λbe=>aQ t 3 bb λbf=>aQ t 4 bb λbg=>
 XB.c bc bd be bf bg bb λbh bi=>B1 Tryz.prog (e1 bN) bh bi (λ(bj:Int) bk bl=>eI bl λbm=>gE bm .p g λ(bn:Option Addr)=>bU bn λbo=>aU bm bo 0 λbp=>ZB.c bj bl λbq br=>And (bm br) <| Xd.c bp bj bq br λbs bt=>And (bm bt) <| bk bt) λbu=>fT g bu λbv=>aQ t 0 bu λbw=>aQ t 1 bu λbx=>aQ t 2 bu λbz=>aQ t 3 bu λb0=>aQ t 4 bu λb1=>XV.c bv bw bx bz b0 b1 0 bu λb2=>eI b2 λb3=>gE b3 .p g λ(b4:Option Addr)=>bU b4 λb5=>gE b3 .m (b5.add 1) λ(b6:Option Nat)=>gE b3 bN ((t.add 0).add 0) λ(b7:Int)=>aS b3 t 0 λb8=>aS b3 t 1 λb9=>aS b3 t 2 λca=>aS b3 t 3 λcb=>aS b3 t 4 λcc=>kq .i64 (.ag 5) b6 b7 (b8,b9,ca,cb,cc) b2 λcd=>bM ((t.add 0).add 0) cd λce=>uQ bi.size cd λcf=>f ce 0 cf))) λcg=>If p (cg true q) (bL (d-1) λch=>cg ((bits .and .i64 d ch) != 0) q)) λci=>If n (ci true o) (ci (decide (d>256)) o)) λcj=>If l (cj true m) (cj (decide (d<1)) m)) λck=>If (c<1) (ck true k) (ck (decide (c>1024)) k))
theorem Xn.o {a b c d e f}(g:Xn.v a b c d e f):Xn.c a b c d e f:=Di Tryz.func14 (x:=Xn.h) (R0 g)
def YC.h:Hn:=.q .o2 (.q (.q .o4 (.q .o2 (.c (.q .o3 .l) .l))) (.q .gH .l))
def YC.v (a:R2)(b:Int)(c:Hp)(d:Int->Int->Hp->Prop):Prop:=XX.c a b c λe f=>If (e != 0) (d 0 e f) (bF a 0 f λh=>YE.c h b f λi j k=>d i j k)
theorem YC.o {a b c d}(e:YC.v a b c d):YC.c a b c d:=Wa Tryz.func16 (x:=YC.h) (R0 e)
def Xh.h:Hn:=.q .o1 (.q (.q .o4 (.q .o2 .aJ)) (.q .o8 .l))
def Xh.v (a:R2)(b c:Int)(d:Hp)(e:aN):Prop:=XX.c a b d λf g=>If (f != 0) (e f g) (bF a 0 g λi=>Xd.c i b c g λj k=>e j k)
theorem Xh.o {a b c d e}(f:Xh.v a b c d e):Xh.c a b c d e:=Wa Tryz.func17 (x:=Xh.h) (R0 f)
def YJ.h:Hn:=.q .o1 (.q (.q .o3 .aK) (.q .o1 (.q (.q .o8 (.k (.loop [(3,.one .s),(16,.I)] (.q .o1 (.q (.c .l .l) (.q (.k (.q .o3 (.o 11))) .o2)))))) .aL)))
def YJ.v (a:R2)(b:Hp)(c:Sl->Hp->Prop):Prop:=WH.c a b λd e=>If (!d) (c ⟨none,0,0⟩ e) (bI a 1 e λg=>Zd.c g e λh i=>Vq.c h i λj k=>Ys [.s,bN] (λl=>l ⟨none,0,0⟩ 0 k) λm (n:Sl) (o:Int) p=>If (o<((j.len:Nat):Int)) (Ix j.a j.len o 1 λq=>bM q p λr=>bU a λs=>bB s 1 p λt=>Lk .i64 (.ag 5) t r p λu=>aV #[.I ((u.getD (0,0,0,0,0)).1),.I ((u.getD (0,0,0,0,0)).2.1),.I ((u.getD (0,0,0,0,0)).2.2.1),.I ((u.getD (0,0,0,0,0)).2.2.2.1)] 52 p λv w=>App n 4 32 52 [.I 0,.I 0,.I 0,.I 0] ⟨some v,1,1⟩ w λx y=>bL (o+1) λz=>m x z y) (c n p))
theorem YJ.o {a b c}(d:YJ.v a b c):YJ.c a b c:=Wa Tryz.func20 (x:=YJ.h) (R0 d)
def XA.h:Hn:=.q .o2 (.q (.q .o3 .aJ) (.q (.o 12) (.q (.q .o2 .aJ) (.q (.q .o3 .aJ) (.q .o5 .l)))))
def XA.v (a:R2)(b:Int)(c:Hp)(d:Sl->Int->Hp->Prop):Prop:=WH.c a c λe f=>If (!e) (d ⟨none,0,0⟩ 5 f) (bI a 1 f λh=>Lk .i64 (.ag 5) h b f λi=>aV #[.I 0,.I 0,.I 0,.I 0,.I 0] 95 f λj k=>aR j 0 (.I ((i.getD (0,0,0,0,0)).1)) k λl=>aR j 1 (.I ((i.getD (0,0,0,0,0)).2.1)) l λm=>aR j 2 (.I ((i.getD (0,0,0,0,0)).2.2.1)) m λn=>aR j 3 (.I ((i.getD (0,0,0,0,0)).2.2.2.1)) n λo=>aR j 4 (.I ((i.getD (0,0,0,0,0)).2.2.2.2)) o λp=>If (!i.isSome) (d ⟨none,0,0⟩ 8 p) (aQ j 0 p λq=>aQ j 1 p λr=>aQ j 2 p λs=>aQ j 3 p λt=>aQ j 4 p λu=>W8.c a q r s t u p λv w=>If v (d ⟨none,0,0⟩ 5 w) (aQ j 0 w λx=>aQ j 1 w λy=>aQ j 2 w λz=>aQ j 3 w λaa=>aQ j 4 w λab=>W7.c a x y z aa ab w λac ad=>d ac 0 ad)))
theorem XA.o {a b c d}(e:XA.v a b c d):XA.c a b c d:=Wa Tryz.func21 (x:=XA.h) (R0 e)
def Yi.h:Hn:=.q .o1 (.q (.q .o3 .aK) (.q .o1 (.q (.q .o5 (.k (.loop [(3,.one .s)] (.q (.cR (.seq [.it .i64 (.ag 5),.op])) (.q (.c .l .l) (.k (.q (.cR (.seq [.it .i64 (.ag 5),.op,.op,.op])) (.q .o4 (.c .o6 .l))))))))) (.q .o2 (.q .o3 .l)))))
def Yi.v (a:R2)(b:Hp)(c:Sl->Hp->Prop):Prop:=WH.c a b λd e=>If (!d) (c ⟨none,0,0⟩ e) (bI a 1 e λg=>nN .i64 (.ag 5) g e λh i=>Ys [.s] (λj=>j ⟨none,0,0⟩ i) λk (l:Sl) m=>nQ .i64 (.ag 5) h m (KK.c l m λn=>WS.c l n λo p=>c o p) (λq r s=>nT .i64 (.ag 5) h s λt u=>aV #[.I 0,.I 0,.I 0,.I 0,.I 0] 95 s λv w=>aR v 0 (.I u.1) w λx=>aR v 1 (.I u.2.1) x λy=>aR v 2 (.I u.2.2.1) y λz=>aR v 3 (.I u.2.2.2.1) z λaa=>aR v 4 (.I u.2.2.2.2) aa λab=>aQ v 0 ab λac=>aQ v 1 ab λad=>aQ v 2 ab λae=>aQ v 3 ab λaf=>aQ v 4 ab λag=>W8.c a ac ad ae af ag ab λah ai=>If (!ah) (aQ v 0 ai λaj=>aQ v 1 ai λak=>aQ v 2 ai λal=>aQ v 3 ai λam=>aQ v 4 ai λan=>W7.c a aj ak al am an ai λao ap=>App l 1 8 3 [.I 0] ao ap λaq ar=>k aq ar) (k l ai)))
theorem Yi.o {a b c}(d:Yi.v a b c):Yi.c a b c:=Wa Tryz.func22 (x:=Yi.h) (R0 d)
def WE.h:Hn:=.q .o2 (.q (.q .o3 (.c (.q .o3 .l) .l)) (.q .o9 (.q (.q .o2 (.c (.q .o3 .l) .l)) (.q .o4 .l))))
def WE.v (a:R2)(b:Int)(c:Hp)(d:Int->Int->Int->Int->Int->Hp->Prop):Prop:=aV #[.I 0,.I 0,.I 0,.I 0] 52 c λe f=>WH.c a f λg h=>If (!g) (aR e 0 (.I 0) h λi=>aR e 1 (.I 0) i λj=>aR e 2 (.I 0) j λk=>aR e 3 (.I 0) k λl=>aQ e 0 l λm=>aQ e 1 l λn=>aQ e 2 l λo=>aQ e 3 l λp=>d m n o p 5 l) (Y6.c a b ⟨57,#[],#[]⟩ h λq r s t u v w=>aV #[.I 0,.I 0,.I 0,.I 0,.I 0] 95 w λx y=>aR x 0 (.I q) y λz=>aR x 1 (.I r) z λaa=>aR x 2 (.I s) aa λab=>aR x 3 (.I t) ab λac=>aR x 4 (.I u) ac λad=>If (!v) (aR e 0 (.I 0) ad λae=>aR e 1 (.I 0) ae λaf=>aR e 2 (.I 0) af λag=>aR e 3 (.I 0) ag λah=>aQ e 0 ah λai=>aQ e 1 ah λaj=>aQ e 2 ah λak=>aQ e 3 ah λal=>d ai aj ak al 8 ah) (bM ((x.add 0).add 0) ad λam=>bM ((x.add 0).add 1) ad λan=>bM ((x.add 0).add 2) ad λao=>bM ((x.add 0).add 3) ad λap=>aR e 0 (.I am) ad λaq=>aR e 1 (.I an) aq λar=>aR e 2 (.I ao) ar λau=>aR e 3 (.I ap) au λav=>aQ e 0 av λaw=>aQ e 1 av λax=>aQ e 2 av λay=>aQ e 3 av λaz=>d aw ax ay az 0 av))
theorem WE.o {a b c d}(e:WE.v a b c d):WE.c a b c d:=Wa Tryz.func23 (x:=WE.h) (R0 e)
def Xj.h:Hn:=.q .o1 (.q .o5 .l)
def Xj.v (a:R2)(b c:Int)(d:Hp)(e:aN):Prop:=X3.c a b c true d λf g=>e f g
theorem Xj.o {a b c d e}(f:Xj.v a b c d e):Xj.c a b c d e:=Wa Tryz.func29 (x:=Xj.h) (R0 f)
def Qu.h:Hn:=.q .o2 (.q (.q .o3 .aJ) (.q .o7 .l))
def Qu.v (a:R2)(b:Hp)(c:Option Addr->Int->Hp->Prop):Prop:=Qk.c a b λd e=>If (!d) (c none 1 e) (Nw (.map #[] 0) e λf g=>Nw (.map #[] 0) g λh i=>aV #[.pointer a,.map (some f.block),.map (some h.block),.I 0] 74 i λj k=>c (some j) 0 k)
theorem Qu.o {a b c}(d:Qu.v a b c):Qu.c a b c:=Wa Tryz.func33 (x:=Qu.h) (R0 d)
def WH.h:Hn:=.q .o1 (.q (.cR (.seq [.op,.op,.op,.cX true 5 (RI.ops 5),.op])) .l)
def WH.v (a:R2)(b:Hp)(c:aO):Prop:=bV (λd e=>c d e) λf=>If (!a.isNone) (bF a 0 b λh=>f (!h.isNone) b) (f false b)
theorem WH.o {a b c}(d:WH.v a b c):WH.c a b c:=Wa Tryz.func42 (x:=WH.h) (R0 d)
def Xg.h:Hn:=.q .o2 (.q .o8 .l)
def Xg.v (a b c d e:Int)(f:Hp)(g:aN):Prop:=aV #[.I a,.I b,.I c,.I d,.I e] 95 f λh i=>bM ((h.add 0).add 1) i λj=>bL (j+8) λk=>bL (k-1) λl=>Nz 8<|bL (l.tdiv 8) λm=>bL (m*8) λn=>g n i
theorem Xg.o {a b c d e f g}(h:Xg.v a b c d e f g):Xg.c a b c d e f g:=Wa Tryz.func44 (x:=Xg.h) (R0 h)
def XB.h:Hn:=.q .o2 .aL
def XB.v (a b c d e:Int)(f:Hp)(g:Fv->Hp->Prop):Prop:=aV #[.I a,.I b,.I c,.I d,.I e] 95 f λh i=>g ⟨82,#[],#[.pointer (some h)]⟩ i
theorem XB.o {a b c d e f g}(h:XB.v a b c d e f g):XB.c a b c d e f g:=Wa Tryz.func45 (x:=XB.h) (R0 h)
def ZB.h:Hn:=.q .o1 (.q .o4 .l)
def ZB.v (a:Int)(b:Hp)(c:aN):Prop:=bL (0-a) λd=>bL (d-1) λe=>c e b
theorem ZB.o {a b c}(d:ZB.v a b c):ZB.c a b c:=Wa Tryz.func46 (x:=ZB.h) (R0 d)
def XV.h:Hn:=.q .o1 (.q .o1 (.k (.loop [(6,.I)] (.q (.q .o4 (.c .l .l)) (.q (.k (.cR (.tail 10 (RI.ops 10) [.op]))) .o3)))))
def XV.v (a:R2)(b c d e f g:Int)(h:Hp)(i:aP):Prop:=aV #[.I b,.I c,.I d,.I e,.I f] 95 h λj k=>Ys [bN] (λl=>l 0 k) λm (n:Int) o=>aQ j 0 o λp=>aQ j 1 o λq=>aQ j 2 o λr=>aQ j 3 o λs=>aQ j 4 o λt=>Xg.c p q r s t o λu v=>If (n<u) (bF a 0 v λx=>bM ((j.add 0).add 0) v λy=>bL (y+n) λz=>Xd.c x z g v λaa ab=>bL (n+8) λac=>m ac ab) (i v)
theorem XV.o {a b c d e f g h i}(j:XV.v a b c d e f g h i):XV.c a b c d e f g h i:=Wa Tryz.func47 (x:=XV.h) (R0 j)
def XX.h:Hn:=.q .o1 (.q (.q .o3 .aK) (.q .o9 (.q (.k (.q (.cR (.seq [.op,.op,.op,.cX false 3 (RI.ops 3),.op])) (.c .aM (.q .o4 .aK)))) .aM)))
def XX.v (a:R2)(b:Int)(c:Hp)(d:aN):Prop:=WH.c a c λe f=>If (!e) (d 5 f) (Y6.c a b ⟨44,#[],#[]⟩ f λg h i j k l m=>aV #[.I 0,.I 0,.I 0,.I 0,.I 0] 95 m λn o=>aR n 0 (.I g) o λp=>aR n 1 (.I h) p λq=>aR n 2 (.I i) q λr=>aR n 3 (.I j) r λs=>aR n 4 (.I k) s λt=>bV (λu v=>If u (d 7 v) (aQ n 0 v λw=>aQ n 1 v λx=>aQ n 2 v λy=>aQ n 3 v λz=>aQ n 4 v λaa=>W8.c a w x y z aa v λab ac=>If ab (d 5 ac) (d 0 ac))) λad=>If (!l) (ad true t) (Nz 8 <| ad ((b.tmod 8) != 0) t))
theorem XX.o {a b c d}(e:XX.v a b c d):XX.c a b c d:=Wa Tryz.func48 (x:=XX.h) (R0 e)
def W8.h:Hn:=.q .o2 (.q (.cR (.held true [7] (.tk [0,1,2,3,4,5,6] (.all [(7,.tk [8,9,10,11,12] (.done))])))) (.q (.cR (.seq [.op,.op,.op,.cX false 5 (RI.ops 5),.op])) .l))
def W8.v (a:R2)(b c d e f:Int)(g:Hp)(h:aO):Prop:=aV #[.I b,.I c,.I d,.I e,.I f] 95 g λi j=>eI j λk=>bU a λl=>aU k l 0 λm=>gE k bN ((i.add 0).add 2) λ(n:Int)=>Xv.c m n j λo p q=>bV (λr s=>h r s) λt=>If (p != 0) (t true q) (bM ((i.add 0).add 3) q λu=>t (o != u) q)
theorem W8.o {a b c d e f g h}(i:W8.v a b c d e f g h):W8.c a b c d e f g h:=Wa Tryz.func52 (x:=W8.h) (R0 i)
def W7.h:TX:=.nx (.o 3) (.nx (.o 1) (.r1 (.o 2) bN (.block (.seq (.o 11) (.seq (.cR (.seq [.op,.op,.op,.cX false 4 [.op,.op,.op,.op]])) (.cond (.o 5) (.leaf))))) (.seq (.o 2) (.leaf))))
def W7.v (a:R2)(b c d e f:Int)(g:Hp)(h:Sl->Hp->Prop):Prop:=aV #[.pointer a] 33 g λi j=>aV #[.I b,.I c,.I d,.I e,.I f] 95 j λk l=>aV #[.slice none 0 0] 34 l λm n=>aQ k 0 n λo=>aQ k 1 n λp=>aQ k 2 n λq=>aQ k 3 n λr=>aQ k 4 n λs=>XB.c o p q r s n λt u=>B1 Tryz.prog (e1 bN) t u (λ(v:Int) w x=>fT i x λy=>bF y 0 x λaa=>YE.c aa v x λab ac ad=>bV (λae af=>If ae (jq m af λag=>aV #[.I v] 3 af λah ai=>App ag 1 8 3 [.I 0] ⟨some ah,1,1⟩ ai λaj ak=>dN m (.slice aj.a aj.len aj.cap) ak λal=>w al) (w af)) λam=>If (ac != 0) (am true ad) (ZB.c v ad λan ao=>am (ab != an) ao)) λap=>jq m ap λaq=>uQ u.size ap λar=>h aq ar
theorem W7.o {a b c d e f g h}(i:W7.v a b c d e f g h):W7.c a b c d e f g h:=Di Tryz.func53 (x:=W7.h) (R0 i)
def Y6.h:Hn:=.q .o2 (.q .o1 (.q .o2 (.q (.q .o5 (.k (.loop [(9,.one .b),(10,.one .b)] (.q (.cR (.seq [.it .i64 (.ag 5),.op])) (.q (.c .l .l) (.k (.q (.cR (.seq [.it .i64 (.ag 5),.op,.op,.op])) (.q (.q (.cR (.gA true [] [(38,.one .b)] (.tk [0,1,2,3,4,5] (.split 28 (.tk [6,7,8,9,10,11,12,13,14,15] (.done)) (.tk [6,7,8,9,10,11] (.all [(12,.tk [13,14,15] (.done))])))))) (.c .l .l)) (.q .o5 (.q (.cR (.seq [.op,.op,.op,.cX false 5 [.op,.op,.cX true 2 [.op,.op]],.op,.cX false 10 [.op,.op,.op,.op,.cX true 5 (RI.ops 5)]])) (.c .o5 .l))))))))))) (.q .o4 .l))))
def Y6.v (a:R2)(b:Int)(c:Fv)(d:Hp)(e:Int->Int->Int->Int->Int->Bool->Hp->Prop):Prop:=aV #[.I 0,.I 0,.I 0,.I 0,.I 0] 95 d λf g=>aV #[.I 0,.I 0,.I 0,.I 0,.I 0] 95 g λh i=>bI a 1 i λk=>nN .i64 (.ag 5) k i λl m=>Ys [.b,.b] (λn=>n false false m) λo (p:Bool) (q:Bool) r=>nQ .i64 (.ag 5) l r (aQ h 0 r λs=>aQ h 1 r λt=>aQ h 2 r λu=>aQ h 3 r λv=>aQ h 4 r λw=>aR f 0 (.I s) r λx=>aR f 1 (.I t) x λy=>aR f 2 (.I u) y λz=>aR f 3 (.I v) z λaa=>aR f 4 (.I w) aa λab=>aQ f 0 ab λac=>aQ f 1 ab λad=>aQ f 2 ab λae=>aQ f 3 ab λaf=>aQ f 4 ab λag=>e ac ad ae af ag p ab) (λah ai aj=>nT .i64 (.ag 5) l aj λak al=>aV #[.I 0,.I 0,.I 0,.I 0,.I 0] 95 aj λam an=>aR am 0 (.I al.1) an λao=>aR am 1 (.I al.2.1) ao λap=>aR am 2 (.I al.2.2.1) ap λaq=>aR am 3 (.I al.2.2.2.1) aq λar=>aR am 4 (.I al.2.2.2.2) ar λau=>Jn [.b] (λ(av:Bool) aw=>If av (o p q aw) (aQ am 0 aw λax=>aQ am 1 aw λay=>aQ am 2 aw λaz=>aQ am 3 aw λa0=>aQ am 4 aw λa1=>W8.c a ax ay az a0 a1 aw λa2 a3=>bV (λa4 a5=>bV (λa6 a7=>If a6 (aQ am 0 a7 λa8=>aQ am 1 a7 λa9=>aQ am 2 a7 λba=>aQ am 3 a7 λbb=>aQ am 4 a7 λbc=>aR h 0 (.I a8) a7 λbd=>
 aR h 1 (.I a9) bd λbe=>aR h 2 (.I ba) be λbf=>aR h 3 (.I bb) bf λbg=>aR h 4 (.I bc) bg λbh=>o true (!a2) bh) (o p q a7)) λbi=>If a4 (bi true a5) (bV (λbj bk=>bi bj bk) λbl=>If ((!a2)==q) (aQ am 4 a5 λbm=>aQ h 4 a5 λbn=>bl (decide (bm>bn)) a5) (bl false a5))) λbo=>If (!p) (bo true a3) (bV (λbp bq=>bo bp bq) λbr=>If (!a2) (br (!q) a3) (br false a3)))) λbs=>eI au λbt=>gE bt bN ((am.add 0).add 0) λ(bu:Int)=>If (b<bu) (bs true au) (gE bt bN ((am.add 0).add 0) λ(bv:Int)=>aS bt am 0 λbw=>aS bt am 1 λbx=>aS bt am 2 λbz=>aS bt am 3 λb0=>aS bt am 4 λb1=>VP Tryz.prog c [.agg #[.I bw,.I bx,.I bz,.I b0,.I b1]] [.I] au λb2 b3=>And (bt b3) <| bL (bv+b2) λb4=>bs (decide (b≥b4)) b3))
theorem Y6.o {a b c d e}(f:Y6.v a b c d e):Y6.c a b c d e:=Wa Tryz.func56 (x:=Y6.h) (R0 f)
def Yx.h:Hn:=.q .o2 (.q .o4 .l)
def Yx.v (a b c d e:Int)(f:Hp)(g:aN):Prop:=aV #[.I a,.I b,.I c,.I d,.I e] 95 f λh i=>bM ((h.add 0).add 1) i λj=>g j i
theorem Yx.o {a b c d e f g}(h:Yx.v a b c d e f g):Yx.c a b c d e f g:=Wa Tryz.func57 (x:=Yx.h) (R0 h)
def X3.h:Hn:=.q .o1 (.q (.q .o3 .aK) (.q (.q .o4 (.q .o2 .aJ)) (.q (.o 12) (.q (.k (.q (.cR (.seq [.op,.op,.op,.cX true 6 (RI.ops 6),.op])) (.c .aM (.q .o3 (.c .aM (.q .o4 (.c .aM (.q (.cR (.seq [.op,.op,.cX true 5 (RI.ops 5),.op])) .aK)))))))) (.q .o3 (.q .o6 (.q .o6 (.q (.cR (.tail 8 (RI.ops 8) [.op])) .aM))))))))
def X3.v (a:R2)(b c:Int)(d:Bool)(e:Hp)(f:aN):Prop:=WH.c a e λg h=>If (!g) (f 5 h) (Yh.c a b h λi j=>If (i != 0) (f i j) (bI a 1 j λl=>Lk .i64 (.ag 5) l c j λm=>aV #[.I 0,.I 0,.I 0,.I 0,.I 0] 95 j λn o=>aR n 0 (.I ((m.getD (0,0,0,0,0)).1)) o λp=>aR n 1 (.I ((m.getD (0,0,0,0,0)).2.1)) p λq=>aR n 2 (.I ((m.getD (0,0,0,0,0)).2.2.1)) q λr=>aR n 3 (.I ((m.getD (0,0,0,0,0)).2.2.2.1)) r λs=>aR n 4 (.I ((m.getD (0,0,0,0,0)).2.2.2.2)) s λt=>bV (λu v=>If u (f 9 v) (If (!m.isSome) (f 8 v) (aQ n 0 v λw=>aQ n 1 v λx=>aQ n 2 v λy=>aQ n 3 v λz=>aQ n 4 v λaa=>W8.c a w x y z aa v λab ac=>If ab (f 5 ac) (bV (λad ae=>If ad (f 10 ae) (aQ n 0 ae λaf=>aQ n 1 ae λag=>aQ n 2 ae λah=>aQ n 3 ae λai=>aQ n 4 ae λaj=>XV.c a af ag ah ai aj (-1234567) ae λak=>bI a 1 ak λam=>lx .i64 (.ag 5) am c ak λan=>bI a 2 an λap=>kq .i64 .b ap c true an λaq=>bF a 0 aq λau=>bM ((n.add 0).add 2) aq λav=>Zi.c au b av aq λaw ax=>f 0 ax)) λay=>If d (aQ n 0 ac λaz=>aQ n 1 ac λa0=>aQ n 2 ac λa1=>aQ n 3 ac λa2=>aQ n 4 ac λa3=>W7.c a az a0 a1 a2 a3 ac λa4 a5=>ay (decide (((a4.len:Nat):Int)>0)) a5) (ay false ac))))) λa6=>If (!m.isSome) (bI a 2 t λa8=>
 Lk .i64 .b a8 c t λa9=>a6 (a9.getD false) t) (a6 false t)))
theorem X3.o {a b c d e f}(g:X3.v a b c d e f):X3.c a b c d e f:=Wa Tryz.func63 (x:=X3.h) (R0 g)
def Qk.h:Hn:=.q .o1 (.q (.cR (.seq [.op,.op,.op,.cX true 4 (RI.ops 4),.op])) .l)
def Qk.v (a:R2)(b:Hp)(c:aO):Prop:=bV (λd e=>c d e) λf=>If (!a.isNone) (X6.c a b λg h i j k l=>f (decide (g>0)) l) (f false b)
theorem Qk.o {a b c}(d:Qk.v a b c):Qk.c a b c:=Wa Tryz.func65 (x:=Qk.h) (R0 d)
def cI.rG (l:Nat)(cap0:Addr)(U:Hp)(R:aP):Prop:=Bw Tryz.prog 82 #[.func (.yield l) #[] #[],.pointer (some cap0)] U R
def cI.wu:Hn:=.seq (.seq (.o 4) (.block (.loop [(3,.one bN)] (.seq (.seq (.o 5) (.cond (.leaf) (.leaf))) (.seq (.block (.seq (.leaf) (.cond (.leaf) (.leaf)))) (.o 3)))))) (.seq (.cR (.held true [] (.tk [0,1,2,3] (.all [(4,.take 5 (.take 6 (.done)))])))) (.block (.loop [(4,.one bN)] (.seq (.seq (.o 10) (.cond (.leaf) (.leaf))) (.seq (.block (.seq (.leaf) (.cond (.leaf) (.leaf)))) (.o 3))))))
def cI.ve (l:Nat)(cap0:Addr)(U:Hp)(R:aP):Prop:=
 gp .i64 ((cap0.add 0).add 2) U λvw=>
 Ys [bN] (λI=>I vw U) λJ (vw1:Int) v=>
 gp .i64 ((cap0.add 0).add 0) v λt11=>
 If (decide (vw1<t11)) (UU Tryz.prog l [.int .i64 vw1] v λmore v1=>
  If (!more) (R v1)
   (Ar .i64 (vw1+8) λvw2=>
   J vw2 v1))
  (eI v λS=>
  gE S bN ((cap0.add 0).add 0) λ(t21:Int)=>
  gE S bN (cap0.add 0) λ(t22:Int)=>
  gE S bN (cap0.add 1) λ(t221:Int)=>
  gE S bN (cap0.add 2) λ(t222:Int)=>
  gE S bN (cap0.add 3) λ(t223:Int)=>
  gE S bN (cap0.add 4) λ(t224:Int)=>
  Xg.c t22 t221 t222 t223 t224 v λt23 v2=>
  And (S v2) <|
  Ar .i64 (t21+t23) λvw3=>
  Ys [bN] (λI1=>I1 vw3 v2) λJ1 (vw4:Int) v3=>
  Ar .i64 (vw4+8) λt26=>
  gp .i64 ((cap0.add 0).add 2) v3 λt29=>
  gp .i64 ((cap0.add 0).add 3) v3 λt32=>
  Ar .i64 (t29+t32) λt33=>
  If (decide (t26<=t33)) (UU Tryz.prog l [.int .i64 vw4] v3 λmore1 v4=>
   If (!more1) (R v4)
    (Ar .i64 (vw4+8) λvw5=>
    J1 vw5 v4))
   (R v3))
theorem cI.tC {l:Nat}{cap0:Addr}{U:Hp}{R:aP}(hv:cI.ve l cap0 U R):cI.rG l cap0 U R:=
 NF Tryz.func82 (x:=cI.wu) (args:=[.func (.yield l) #[] #[],.pointer (some cap0)]) (R:=R) (R0 hv)
def Yh.h:Hn:=.q .o1 (.q (.q (.cR (.seq [.op,.op,.op,.cX false 8 (RI.ops 8)])) .aK) (.q (.q .o7 .aK) .aM))
def Yh.v (a:R2)(b:Int)(c:Hp)(d:aN):Prop:=bV (λe f=>If e (d 1 f) (bF a 0 f λh=>YT.c h b f λi j=>If (!(i.toList==(ByteArray.mk #[]).toList)) (d 5 j) (d 0 j))) λk=>If (b<0) (k true c) (bF a 0 c λm=>X6.c m c λn o p q r s=>k (decide (b≥p)) s)
theorem Yh.o {a b c d}(e:Yh.v a b c d):Yh.c a b c d:=Wa Tryz.func90 (x:=Yh.h) (R0 e)
end Go.Proofs
namespace Go.Ar
open Go Go.Vc Go.Proofs
open Go.Vc (bW dB cS)
variable {U σ0 v w w':Hp}{F P Q X T:Rg}{L:dK}{H H':Hw}{held:List Pc}{s0 sp:Sp}{t n:Nat}{g:Th}{gb km fm m:Nat}
theorem il {S:aP}{b i:Nat}{cs:List Value}{c:CK}{y:c.T}(hS:∀m,S m->bX m b cs)(hc:cs[i]?=some (c.v y)){K:c.T->Prop}(hK:K y):gE S c (Addr.add ⟨b,0,none⟩ i) K:=
 ⟨y,λm a=>by rw[add_lit,(hS m a).cell,zH];exact hc,hK⟩
theorem sr {S:aP}{b:Nat}{cs:List Value}{c:CK}{y:c.T}(hS:∀m,S m->bX m b cs)(hc:cs[0]?=some (c.v y)){K:c.T->Prop}(hK:K y):gE S c ⟨b,0,none⟩ K:=
 ⟨y,λm a=>by rw[(hS m a).cell];exact hc,hK⟩
theorem og {S:aP}{b i j:Nat}{cs:List Value}{c:CK}{y:c.T}(hS:∀m,S m->bX m b cs)(hc:cs[i+j]?=some (c.v y)){K:c.T->Prop}(hK:K y):gE S c (Addr.add (Addr.add ⟨b,0,none⟩ i) j) K:=
 ⟨y,λm a=>by rw[add_lit,add_lit,(hS m a).cell,zH];exact hc,hK⟩
abbrev B5:=Int×Int×Int×Int×Int
def eW (b:B5):List Value:=[.int .i64 b.1,.int .i64 b.2.1,.int .i64 b.2.2.1,.int .i64 b.2.2.2.1,.int .i64 b.2.2.2.2]
def Zq (n:Int):Int:=(n+7)/8*8
structure gW (b:B5):Prop where
 s:1<=b.2.1/\b.2.1<=1024
 base:0<=b.2.2.1/\b.2.2.1%8=0
 z:16<=b.1-b.2.2.1/\b.1-b.2.2.1<=256/\b.1%8=0
 t:b.1+Zq b.2.1+16<=b.2.2.1+b.2.2.2.1/\b.2.2.2.1%8=0
 m:b.2.2.1+b.2.2.2.1<=270000
theorem Z1 {n:Int}(h:0<=n):n<=Zq n/\Zq n<=n+7/\Zq n%8=0:=by unfold Zq;omega
structure Gu where
 kn:List (Int×B5)
 fr:List (Int×Bool)
 no:Int
def nI:Gu:=⟨[],[],0⟩
def Vt (b:B5):Nat:=(b.1-b.2.2.1).toNat/8
def pK (b:B5):Nat:=(b.2.2.1+b.2.2.2.1-b.1-Zq b.2.1).toNat/8
def Za (b:B5):List Int:=((List.range (Vt b)).map λ(i:Nat)=>b.2.2.1+8*(i:Int))++(List.range (pK b)).map λ(i:Nat)=>b.1+Zq b.2.1+8*(i:Int)
theorem CQ (b:B5):(Za b).length=Vt b+pK b:=by unfold Za;simp
theorem SP {b:B5}{i:Nat}(h:i<Vt b):(Za b)[i]?=some (b.2.2.1+8*(i:Int)):=by
 unfold Za;rw[ze (by simpa using h)];simp[h]
theorem RX {b:B5}{i:Nat}(h:i<pK b):(Za b)[Vt b+i]?=some (b.1+Zq b.2.1+8*(i:Int)):=by
 unfold Za;rw[zp aA];simp[h]
theorem UW {b:B5}(bi:gW b){z:Int}(hz:z∈Za b):b.2.2.1<=z/\z%8=0/\z+8<=b.2.2.1+b.2.2.2.1/\(z+8<=b.1\/b.1+Zq b.2.1<=z):=by
 obtain⟨s,⟨d,g⟩,⟨u,r,p⟩,⟨t,e⟩,m⟩:=bi;have j:=Z1 (n:=b.2.1) O;unfold Za at hz;rcases zK.1 hz with h|h
 ·obtain⟨i,a,rfl⟩:=zE.1 h;have:=zg.1 a;unfold Vt at this;exact⟨O,O,O,.inl O⟩
 ·obtain⟨i,a,rfl⟩:=zE.1 h;have:=zg.1 a;unfold pK at this;exact⟨O,O,O,.inr O⟩
def jB (z:Int):Int:=-z-1
def rY (hp km fm:Nat)(x:Gu):List Value:=[.pointer (some ⟨hp,0,none⟩),.map (some km),.map (some fm),.int .i64 x.no]
structure GP (σ0 U:Hp) (L:dK) (H:Hw) (held:List Pc) (s0:Sp) (P:Rg) (gb km fm:Nat) (x:Gu):Prop where
 e:bK σ0 U
 h:HH U P L H
 hi:HI H held s0
 cf:lh H
 pg:H.cf.aF<=128
 pP:∀b,P b->σ0.size<=b/\b<U.size
 rm:σ0.size<=gb/\¬P gb
 r4:σ0.size<=km/\¬P km
 tI:σ0.size<=fm/\¬P fm
 n1:gb≠km
 n2:gb≠fm
 n3:km≠fm
 b:bX U gb (rY L.p km fm x)
 m:dI U km .i64 (.ag 5) x.kn
 f:dI U fm .i64 .b x.fr
 g0:iR (λb=>σ0.size<=b)/\¬σ0.size<=1
variable {x y:Gu}
theorem GP.fr (p:GP σ0 U L H held s0 P gb km fm x)(e:bK U w):GP σ0 w L H held s0 P gb km fm x:=
 ⟨p.e.trans e,p.h.bO e,p.hi,p.cf,p.pg,λb a=>⟨(p.pP b a).1,by have:=(p.pP b a).2;have:=e.1;omega⟩,p.rm,p.r4,p.tI,p.n1,p.n2,p.n3,e.bT p.b id,e.fO p.m id,e.fO p.f id,p.g0⟩
theorem GP.out (p:GP σ0 U L H held s0 P gb km fm x)(e:Ext T U w)(hT:∀b,b<U.size->T b->¬P b/\b≠gb/\b≠km/\b≠fm/\σ0.size<=b):GP σ0 w L H held s0 P gb km fm x:=by
 have s:=e.1;have a:=p.b.lt;have j:=p.m.lt;have g:=p.f.lt;have i:Ext (λb=>T b/\b<U.size) U w:=⟨e.1,λb a g=>e.2 b a λd=>g ⟨d,a⟩⟩;refine⟨Ext.dT p.e i λb a=>.inr (hT b a.2 a.1).2.2.2.2,p.h.bS i (λb a r d=>(hT b a d.1).1 r) (λb a=>?_) (λa=>?_),p.hi,p.cf,p.pg,λb a=>⟨(p.pP b a).1,by have:=(p.pP b a).2;omega⟩,p.rm,p.r4,p.tI,p.n1,p.n2,p.n3,e.bT p.b λd=>(hT gb a d).2.1 rfl,e.fO p.m λd=>(hT km j d).2.2.1 rfl,e.fO p.f λd=>(hT fm g d).2.2.2.1 rfl,p.g0⟩
 ·exact p.g0.1 b (hT b a.2 a.1).2.2.2.2
 ·exact p.g0.2 (hT _ a.2 a.1).2.2.2.2
theorem GP.step (p:GP σ0 U L H held s0 P gb km fm x){ts':List eH}(e:Ext P U w)(h':HH w (Grow P U) {L with ts:=ts'} H'){held':List Pc}{s0':Sp}(hi':HI H' held' s0')(k:Qt H' H) :
 GP σ0 w {L with ts:=ts'} H' held' s0' (Cut (Grow P U) w) gb km fm x:=by
 have u:=e.1;have a:=p.b.lt;have j:=p.m.lt;have r:=p.f.lt;have g:∀b,b<U.size->¬P b->¬Cut (Grow P U) w b:=λb d i s=>by
  rcases s.1 with h3|h3
  ·exact i h3
  ·omega
 refine⟨Ext.dT p.e e λb a=>.inr (p.pP b a).1,h'.cut,hi',p.cf.bS k,by rw[k.2.1];exact p.pg,λb a=>⟨?_,a.2⟩,⟨p.rm.1,g gb a p.rm.2⟩,⟨p.r4.1,g km j p.r4.2⟩,⟨p.tI.1,g fm r p.tI.2⟩,p.n1,p.n2,p.n3,e.bT p.b p.rm.2,e.fO p.m p.r4.2,e.fO p.f p.tI.2,p.g0⟩;have:=p.e.1;rcases a.1 with d|d
 ·exact(p.pP b d).1
 ·omega
theorem GP.fB (p:GP σ0 U L H held s0 P gb km fm x)(e:Ext (λb=>b=gb\/b=km\/b=fm) U w)(hb:bX w gb (rY L.p km fm y))(hm:dI w km .i64 (.ag 5) y.kn)(hf:dI w fm .i64 .b y.fr):GP σ0 w L H held s0 P gb km fm y:=by
 have i:=e.1;have a:∀b,(b=gb\/b=km\/b=fm)->σ0.size<=b/\¬P b:=λb hb=>by
  rcases hb with rfl|rfl|rfl
  ·exact p.rm
  ·exact p.r4
  ·exact p.tI
 exact⟨Ext.dT p.e e λb hb=>.inr (a b hb).1,p.h.bS e (λb _ g d=>(a b d).2 g) (λb hb=>p.g0.1 b (a b hb).1) (λhb=>p.g0.2 (a _ hb).1),p.hi,p.cf,p.pg,λb hb=>⟨(p.pP b hb).1,by have:=(p.pP b hb).2;omega⟩,p.rm,p.r4,p.tI,p.n1,p.n2,p.n3,hb,hm,hf,p.g0⟩
theorem VO (p:GP σ0 U L H held s0 P gb km fm x){R:aO}(hR:R true U):WH.c (aW gb) U R:=by
 refine WH.o ?_;unfold WH.v;exact bV.intro (cD rfl (aG (p.b.rP rfl hR)))
theorem U7 (b:B5)(h0:0<=b.2.1)(h1:b.2.1<=1000000){R:aN}(hR:∀σ',bK U σ'->R (Zq b.2.1) σ'):Xg.c b.1 b.2.1 b.2.2.1 b.2.2.2.1 b.2.2.2.2 U R:=by
 refine Xg.o ?_;unfold Xg.v;refine nw (cs:=eW b) λv d e a=>a.eY rfl (ar O O (ar O O (nz aB (ar (by rw[XP O];omega) (by rw[XP O];omega) ?_))));rw[XP O];refine ar O O ?_;have:(b.2.1+8-1)/8*8=Zq b.2.1:=by unfold Zq;omega
 rw[this];exact hR v e
theorem F7 (z:Int)(h0:0<=z)(h1:z<=1000000){R:aN}(hR:R (jB z) U):ZB.c z U R:=by
 refine ZB.o ?_;unfold ZB.v;refine ar O O (ar O O ?_);have:0-z-1=jB z:=by unfold jB;omega
 rw[this];exact hR
theorem Ev (b:B5){R:Fv->Hp->Prop}(hR:∀σ',σ'.size=U.size+1->bK U σ'->bX σ' U.size (eW b)->R ⟨82,#[],#[.pointer (some ⟨U.size,0,none⟩)]⟩ σ'):XB.c b.1 b.2.1 b.2.2.1 b.2.2.2.1 b.2.2.2.2 U R:=by
 refine XB.o ?_;unfold XB.v;exact nw (cs:=eW b) λv a e d=>hR v a e d
theorem DN {P:Program}{l:Nat}{args:List Value}{h:Hp}{R R':Bool->Hp->Prop}(hy:UU P l args h R)(hm:∀b w,R b w->R' b w):UU P l args h R':=λw m=>by
 obtain⟨p,a,u,d,r,g⟩:=hy w m;exact⟨p,a,u,d,r,g.mono λe x ⟨i,b,s,j⟩=>⟨i,b,s,hm _ _ j⟩⟩
theorem F5 {b:B5}(bi:gW b):vY Tryz.prog ⟨82,#[],#[.pointer (some ⟨n,0,none⟩)]⟩ ((Za b).map (e1 bN)) (λs=>bX s n (eW b)):=by
 intro l J hst hKp hy h h0;obtain⟨s,⟨Q,L⟩,⟨P,N,K⟩,⟨t,H⟩,R⟩:=bi;have M:=Z1 (n:=b.2.1) O;have G:(Vt b:Int)*8=b.1-b.2.2.1:=by unfold Vt;omega
 have C:(pK b:Int)*8=b.2.2.1+b.2.2.2.1-b.1-Zq b.2.1:=by unfold pK;omega
 show cI.rG l ⟨n,0,none⟩ h λF=>J ((Za b).map (e1 bN)).length F;rw[zl,CQ];refine cI.tC ?_;unfold cI.ve;refine(hKp 0 h h0).eY rfl (Z6 (a:=bN) (λ(z:Int) s=>∃i:Nat,z=b.2.2.1+8*(i:Int)/\i<=Vt b/\J i s) (λz _=>(b.1-z).toNat) ⟨0,O,O,h0⟩ ?_);rintro(z:Int) s ⟨i,rfl,hi,hJ⟩;have B:=hKp i s hJ;refine B.eY rfl (cQ (λx=>?_) λA=>?_)
 ·have d:i<Vt b:=by omega
  have w:((Za b).map (e1 bN))[i]?=some [Value.int .i64 (b.2.2.1+8*(i:Int))]:=by rw[zd,SP d];rfl
  refine DN (hy i _ w s hJ) λE D ⟨g,j⟩=>?_;subst g;exact cB rfl (ar O O ⟨⟨i+1,O,O,j⟩,O⟩)
 ·have d:i=Vt b:=by omega
  subst d;have p:∀m,bK s m->bX m n (eW b):=λm e=>e.bT B id;refine⟨λm=>bK s m,Ext.refl _ _,og (c:=bN) (y:=b.1) p rfl (il (c:=bN) (y:=b.1) p rfl (il (c:=bN) (y:=b.2.1) p rfl (il (c:=bN) (y:=b.2.2.1) p rfl (il (c:=bN) (y:=b.2.2.2.1) p rfl (il (c:=bN) (y:=b.2.2.2.2) p rfl ?_)))))⟩;refine U7 b O O λs1 u=>⟨u,ar O O ?_⟩;refine Z6 (a:=bN) (λ(z:Int) s=>∃i:Nat,z=b.1+Zq b.2.1+8*(i:Int)/\i<=pK b/\J (Vt b+i) s) (λz _=>(b.2.2.1+b.2.2.2.1-z).toNat) ⟨0,O,O,hst _ _ _ hJ u⟩ ?_;rintro(z:Int) s2 ⟨i,rfl,hi,hJ2⟩;have r:=hKp _ s2 hJ2;refine ar O O (r.eY rfl (r.eY rfl (ar O O (cQ (λx=>?_) λA=>?_))))
  ·have d:i<pK b:=by omega
   have w:((Za b).map (e1 bN))[Vt b+i]?=some [Value.int .i64 (b.1+Zq b.2.1+8*(i:Int))]:=by rw[zd,RX d];rfl
   refine DN (hy _ _ w s2 hJ2) λE D ⟨g,j⟩=>?_;subst g;exact cB rfl (ar O O ⟨⟨i+1,O,O,j⟩,O⟩)
  ·have d:i=pK b:=by omega
   subst d;exact hJ2
def Ux (H:Hw)(b:B5):Bool:=!(Kg H b.2.2.1==some b.2.2.2.1)
theorem UT (p:GP σ0 U L H held s0 P gb km fm x)(b:B5){R:aO}(hR:∀σ',bK U σ'->R (Ux H b) σ'):W8.c (aW gb) b.1 b.2.1 b.2.2.1 b.2.2.2.1 b.2.2.2.2 U R:=by
 refine W8.o ?_;unfold W8.v;refine nw (cs:=eW b) λv s e g=>?_;have j:=p.fr e;refine⟨λm=>bK v m,Ext.refl _ _,aG (il (c:=.p) (y:=some ⟨L.p,0,none⟩) (λm e=>e.bT j.b id) rfl (og (c:=bN) (y:=b.2.2.1) (λm e=>e.bT g id) rfl (Eo j.h b.2.2.1 λr e1=>?_)))⟩;have d:=e1.bT g id;have a:=hR r (e.trans e1);refine bV.intro ?_;cases hu:Kg H b.2.2.1 with
 | none=>
  unfold Ux at a;rw[hu]at a;exact cD rfl a
 | some u=>
  unfold Ux at a;rw[hu]at a;refine cB rfl (d.eY rfl ?_);have:(!(some u==some b.2.2.2.1))=((some u).getD 0 != b.2.2.2.1):=by simp[bne]
  rw[this]at a;exact a
def Kc (H:Hw)(thread:Int):Int:=if thread<0\/thread≥(H.cf.threads:Int)then 1 else if(Ub H thread).isSome then 5 else 0
theorem SM (p:GP σ0 U L H held s0 P gb km fm x)(thread:Int){R:aN}(hR:∀σ',bK U σ'->R (Kc H thread) σ'):Yh.c (aW gb) thread U R:=by
 refine Yh.o ?_;unfold Yh.v;refine KF (λr u=>bK U u/\r=decide (thread<0\/thread≥(H.cf.threads:Int))) (λr u ⟨d,i⟩=>?_) λJ g=>?_
 ·by_cases hc:thread<0\/thread≥(H.cf.threads:Int)
  ·have a:=hR u d;unfold Kc at a;rw[zC hc]at a;exact cD (by rw[i];exact zJ hc) a
  ·have j:=p.fr d;refine cB (by rw[i];exact zM hc) (aG (j.b.rP rfl (P0 j.h thread λs w e2 m=>?_)));have a:=hR w (d.trans e2);unfold Kc at a;rw[zB hc]at a;rw[m];cases hp:Ub H thread with
   | none=>rw[hp]at a;exact cB rfl a
   | some q=>rw[hp]at a;exact cD rfl a
 ·refine cQ (λh=>g _ _ ⟨Ext.refl _ _,by rw[zJ];exact .inl h⟩) λh=>aG (p.b.rP rfl (Ih p.h λu e=>g _ _ ⟨e,?_⟩));rw[l3,decide_eq_true_iff,decide_eq_true_iff];exact⟨.inr,λy=>y.resolve_left h⟩
theorem LP (h:HH U F L H)(hp:1<=H.cf.aF){R:aO}(hR:∀σ',bK U σ'->R true σ'):Qk.c (aW L.p) U R:=by
 refine Qk.o ?_;unfold Qk.v;refine bV.intro (cD rfl (Ih h λw e=>?_));have:decide ((H.cf.aF:Int)>0)=true:=zJ O;rw[this];exact hR w e
theorem Dl (e0:bK σ0 U)(h:HH U P L H)(hi:HI H held s0)(hc:lh H)(hpg:H.cf.aF<=128)(hP:∀b,P b->σ0.size<=b/\b<U.size)(hg:iR (λb=>σ0.size<=b)/\¬σ0.size<=1){R:Option Addr->Int->Hp->Prop}
 (hR:∀w gb km fm,bK U w->U.size<=gb/\U.size<=km/\U.size<=fm->GP σ0 w L H held s0 P gb km fm nI->R (some ⟨gb,0,none⟩) 0 w):Qu.c (aW L.p) U R:=by
 refine Qu.o ?_;unfold Qu.v;refine LP h hc.1 λv e=>cB rfl (r7 λi z e1 r=>r7 λs x e2 y=>nw (cs:=rY L.p v.size i.size nI) λv3 A g u=>?_);have D:=e.1;have B:=e0.1;have a:=((e.trans e1).trans e2).trans g;have d:∀b,U.size<=b->¬P b:=λb C m=>by have:=(hP b m).2;omega
 exact hR v3 s.size v.size i.size a ⟨O,O,O⟩ ⟨e0.trans a,h.bO a,hi,hc,hpg,λb j=>⟨(hP b j).1,by have:=(hP b j).2;have:=a.1;omega⟩,⟨O,d _ O⟩,⟨O,d _ O⟩,⟨O,d _ O⟩,O,O,O,u,(e2.trans g).fO (r _ _) id,g.fO (y _ _) id,hg⟩
end Go.Ar
namespace Go.Ar
open Go Go.Vc Go.Proofs
open Go.Vc (bW dB cS)
variable {U σ0 v w w':Hp}{F P Q X T:Rg}{L:dK}{H H':Hw}{held:List Pc}{s0 sp:Sp}{t n:Nat}{g:Th}{gb km fm m:Nat}{x y:Gu}{b:B5}
def j0 (sp:Sp)(l:List Int)(f:Int->Int):Sp:=l.foldl (λs z=>ZV s z (f z)) sp
theorem Om (sp:Sp)(z:Int)(l:List Int)(f:Int->Int):j0 sp (z::l) f=j0 (ZV sp z (f z)) l f:=rfl
theorem CA (sp:Sp)(l:List Int)(z:Int)(f:Int->Int):j0 sp (l++[z]) f=ZV (j0 sp l f) z (f z):=by unfold j0;rw[wH];rfl
theorem Uk {sp:Sp}{x:Nat}:eT sp ((8*x:Nat):Int)=0↔gf sp.st (x/32)≠0:=by
 unfold eT;rw[zB O,show((8*x:Nat):Int).toNat/256=x/32 by omega];unfold gf;split
 ·rename_i h;rw[h];simp
 ·rename_i h;exact⟨λ_=>h,λ_=>rfl⟩
theorem Gs (sp:Sp)(x:Nat):QW sp ((8*x:Nat):Int)=if gf sp.st (x/32)≠0 then sp.wd x else 0:=by
 unfold QW;by_cases h:gf sp.st (x/32)≠0
 ·rw[zC (Uk.2 h),zC h];congr 1;omega
 ·rw[zB (λa=>h (Uk.1 a)),zB h]
theorem xf (f:Int->Int):∀(l:List Int) (sp:Sp),(∀z∈l,0<=z/\z%8=0)->(j0 sp l f).st.length=sp.st.length/\(∀p,gf (j0 sp l f).st p=0↔gf sp.st p=0) ∧
 ∀w:Nat,(j0 sp l f).wd w=if((8*w:Nat):Int)∈l/\gf sp.st (w/32)≠0 then f ((8*w:Nat):Int)else sp.wd w
 | [],sp,_=>⟨rfl,λ_=>Iff.rfl,λw=>by rw[zB aA];rfl⟩
 | z::l,sp,hl=>by
  obtain⟨i1,i2,i3⟩:=xf f l (ZV sp z (f z)) λz a=>hl z (nF _ a);obtain⟨i,b,e⟩:=CN sp z (f z);have m:=hl z py;obtain⟨zn,rfl⟩:∃c:Nat,z=((8*c:Nat):Int):=⟨z.toNat/8,O⟩;rw[Om];refine⟨i1.trans i,λp=>(i2 p).trans (b p),λw=>?_⟩;rw[i3,e];have a:=b (w/32);by_cases hm:gf sp.st (w/32)≠0
  ·by_cases hw:((8*w:Nat):Int)∈l
   ·rw[zC ⟨hw,λh=>hm (a.1 h)⟩,zC ⟨nF _ hw,hm⟩]
   ·rw[zB λh=>hw h.1];by_cases he:w=zn
    ·subst he;rw[zC ⟨Uk.2 hm,O⟩,zC ⟨py,hm⟩]
    ·rw[zB λh=>he (by have:=h.2;omega),zB λh=>(zW.1 h.1).elim (λh=>he O) hw]
  ·have key:¬(eT sp ((8*zn:Nat):Int)=0/\w=((8*zn:Nat):Int).toNat/8):=λh=>by
    have g:=Uk.1 h.1;have d:w=zn:=by omega
    subst d;exact hm g
   rw[zB λh=>hm λj=>h.2 (a.2 j),zB key,zB λh=>hm h.2]
theorem HI.j0 (f:Int->Int):∀(l:List Int) {H:Hw} {s0:Sp},HI H held s0->∃s0',HI {H with sp:=Go.Ar.j0 H.sp l f} held s0'
 | [],H,s0,h=>⟨s0,h⟩
 | z::l,H,s0,h=>HI.j0 f l (h.write z (f z))
theorem KR {f:Int->Int}{l:List Int}{sp:Sp}(hl:∀z∈l,0<=z/\z%8=0)(w:Nat):QW (j0 sp l f) ((8*w:Nat):Int)=if((8*w:Nat):Int)∈l/\gf sp.st (w/32)≠0 then f ((8*w:Nat):Int)else QW sp ((8*w:Nat):Int):=by
 obtain⟨_,a,d⟩:=xf f l sp hl;rw[Gs,Gs];by_cases hm:gf sp.st (w/32)≠0
 ·rw[zC λh=>hm ((a _).1 h),d];by_cases hw:((8*w:Nat):Int)∈l
  ·rw[zC ⟨hw,hm⟩,zC ⟨hw,hm⟩]
  ·rw[zB λh=>hw h.1,zB λh=>hw h.1,zC hm]
 ·rw[zB λh=>hm λb=>h ((a _).2 b),zB λh=>hm h.2,zB hm]
def sj (b:B5):Nat:=(Zq b.2.1/8).toNat
def Qw (b:B5):List Int:=(List.range (sj b)).map λ(i:Nat)=>b.1+8*(i:Int)
theorem B6 (bi:gW b){z:Int}(hz:z∈Qw b):b.1<=z/\z%8=0/\z+8<=b.1+Zq b.2.1:=by
 obtain⟨s,⟨d,g⟩,⟨u,r,p⟩,⟨t,e⟩,m⟩:=bi;have j:=Z1 (n:=b.2.1) O;obtain⟨i,a,rfl⟩:=zE.1 hz;have:=zg.1 a;unfold sj at this;omega
theorem GP.write (p:GP σ0 U L H held s0 P gb km fm x)(gc:Gc σ0)(z u:Int)(hz:z<=9223372036854775807){R:aN}
 (hR:∀w s0' P',Ext P U w->GP σ0 w L {H with sp:=ZV H.sp z u} held s0' P' gb km fm x->(∀c,P' c->P c\/U.size<=c)->R (eT H.sp z) w):Xd.c (aW L.p) z u U R:=by
 refine IM p.h (gc.bO p.e) z u hz λw e b=>?_;exact hR w _ _ e (p.step (ts':=L.ts) e b (p.hi.write z u) ⟨rfl,rfl,rfl,rfl⟩) λc a=>a.1
theorem CR {D:Nat}{s:Hp}{K:aP}(h:s[D]?=some (.deferred (some [])))(hK:∀w,Ext (· = D) s w->K w):uQ D s K:=
 ⟨h,hK _ ⟨by simp,λb d a=>by rw[Array.getElem?_setIfInBounds,zB λh=>a h.symm]⟩⟩
set_option maxRecDepth 8000 in
theorem D8 (p:GP σ0 U L H held s0 P gb km fm x)(gc:Gc σ0)(bi:gW b)(val:Int){R:aP}
 (hR:∀w s0' P',Ext P U w->GP σ0 w L {H with sp:=j0 H.sp (Qw b) λ_=>val} held s0' P' gb km fm x->(∀c,P' c->P c\/U.size<=c)->R w):XV.c (aW gb) b.1 b.2.1 b.2.2.1 b.2.2.2.1 b.2.2.2.2 val U R:=by
 obtain⟨⟨s1,s2⟩,⟨Y,Q⟩,⟨X,V,N⟩,⟨t,M⟩,Z⟩:=bi;have S:=Z1 (n:=b.2.1) O;have W:(sj b:Int)*8=Zq b.2.1:=by unfold sj;omega
 refine XV.o ?_;unfold XV.v;refine nw (cs:=eW b) λv hz e B=>?_;refine Z6 (a:=bN) (λ(z:Int) u=>∃(i:Nat) (s0':Sp) (P':Rg),z=8*(i:Int)/\i<=sj b/\Ext P v u/\bX u U.size (eW b)/\GP σ0 u L {H with sp:=j0 H.sp ((List.range i).map λ(j:Nat)=>b.1+8*(j:Int)) λ_=>val} held s0' P' gb km fm x/\∀c,P' c->P c\/v.size<=c) (λz _=>(Zq b.2.1-z).toNat)
  ⟨0,s0,P,O,O,Ext.refl _ _,B,p.fr e,λc d=>.inl d⟩ ?_
 rintro(z:Int) u ⟨i,s0',P',rfl,hi,eu,hbu,pu,hP⟩;refine hbu.rI rfl (hbu.rI rfl (hbu.rI rfl (hbu.rI rfl (hbu.rI rfl (U7 b O O λA e1=>?_)))));have m:=e1.bT hbu id;have y:=pu.fr e1;refine cQ (λF=>?_) λJ=>?_
 ·refine aG (y.b.rP rfl (m.eY rfl (ar O O (y.write gc _ val O λK g P'' e2 C r=>?_))));have G:=e1.1;have E:=eu.1;refine ar O O ⟨⟨i+1,g,P'',O,O,Ext.dT (eu.jL e1) e2 hP,e2.bT m λD=>?_,?_,λc d=>?_⟩,O⟩
  ·rcases hP _ D with h|h
   ·have:=(p.pP _ h).2;omega
   ·omega
  ·rw[pU,j4,List.map_singleton,CA];exact C
  ·rcases r c d with h|h
   ·exact hP c h
   ·exact .inr O
 ·have s:i=sj b:=by omega
  subst s;refine hR A _ _ ((bK.to e).trans (eu.jL e1)) y λc d=>?_;have:=e.1;exact(hP c d).imp id λh=>by omega
def jJ (sp:Sp)(z:Int):Bool:=eT sp z != 0||QW sp z != jB z
def Ke (sp:Sp)(b:B5):List Int:=(Za b).filter (jJ sp)
set_option maxRecDepth 16000 in
theorem Hg (p:GP σ0 U L H held s0 P gb km fm x)(bi:gW b){R:Sl->Hp->Prop}
 (hR:∀s w Q,bK U w->bR s 1 (Wo (Ke H.sp b)) w Q->(∀c,Q c->U.size<=c/\c<w.size)->R s w):W7.c (aW gb) b.1 b.2.1 b.2.2.1 b.2.2.2.1 b.2.2.2.2 U R:=by
 refine W7.o ?_;unfold W7.v;refine nw (cs:=[.pointer (some ⟨gb,0,none⟩)]) λv1 hz1 e1 b1=>nw (cs:=eW b) λM hz2 e2 b2=>nw (cs:=[.slice none 0 0]) λv3 hz3 e3 b3=>?_;have j:=e3.bT b2 id;have ab:=(e2.trans e3).bT b1 id;refine j.rI rfl (j.rI rfl (j.rI rfl (j.rI rfl (j.rI rfl (Ev b λY hz4 S b4=>?_)))));have aa:=((e1.trans e2).trans e3).trans S;have hzs:(Za b).length<=100000:=by
  obtain⟨⟨s1,s2⟩,⟨b1,b2⟩,⟨z1,z2,z3⟩,⟨t,t2⟩,hm⟩:=bi;have hw:=Z1 (n:=b.2.1) O;rw[CQ];unfold Vt pK;omega
 refine⟨rfl,by kernel_rfl,Za b,_,λk s=>bK U s/\bX s U.size [.pointer (some ⟨gb,0,none⟩)]/\bX s v3.size (eW b)/\∃(sl:Sl) (Q:Rg),bX s M.size [.slice sl.a sl.len sl.cap]/\bR sl 1 (Wo (((Za b).take k).filter (jJ H.sp))) s Q/\∀c,Q c->Y.size+2<=c/\c<s.size,F5 bi,?_,λk s h=>h.2.2.1,?_,?_,?_⟩
 ·rintro k s s' ⟨B,E,G,sl,Q,C,D,A⟩ e;have hz:=e.1;refine⟨Ext.dT B e λc d=>.inr O,e.bT E O,e.bT G O,sl,Q,e.bT C O,aI.bS D e λc _ X d=>?_,λc d=>?_⟩
  ·have:=A c X;omega
  ·have:=A c d;omega
 ·exact⟨aa,(S).bT ab id,b4,⟨none,0,0⟩,λ_=>False,S.bT b3 id,⟨rfl,.inl ⟨rfl,rfl⟩⟩,λc d=>d.elim⟩
 ·rintro k z Z s ⟨B,E,G,sl,Q,C,D,A⟩ hsz;have zi:=UW bi (zG Z);have N:=bi.base;have hm:=bi.m;have hkl:=(cW.1 Z).1;have ps:=p.fr B;have K:(Za b).take (k+1)=(Za b).take k++[z]:=by rw[k6,Z];rfl
  refine E.rJ rfl (aG (ps.b.rP rfl (CI ps.h z O λv5 g=>?_)));have hz5:=g.1;refine KF (λr u=>u=v5/\r=jJ H.sp z) (λr u ⟨hu,hr⟩=>?_) λJ hJ=>?_
  ·subst hu;have F:=aI.bO D g;have i:∀c,Q c->c≠Y.size/\c≠Y.size+1/\c≠U.size/\c≠v3.size/\c≠M.size:=λc d=>by have:=A c d;omega
   refine cO (λN=>?_) λN=>?_
   ·refine(g.bT C id).uy rfl (Cm F ?_ z λs' v8 e8 h8=>?_)
    ·have B:=qW (jJ H.sp) ((Za b).take k);rw[zZ]at B;omega
    have hz8:=e8.1;have V:=e8.bT (g.bT C id) λd=>(i _ d).2.2.2.2 rfl;refine V.s0 aA λv9 o9 h9=>?_;have e9:=o9.ext;have hz9:=o9.1;have y:Ext (λc=>Q c\/c=M.size) u v9:=(e8.sub λc d=>.inl d).trans (e9.sub λc d=>.inr d);refine⟨⟨Ext.dT (B.trans g) y λc d=>?_,y.bT (g.bT E id) ?_,y.bT (g.bT G id) ?_,s',λc=>Q c\/u.size<=c/\c<v8.size,h9,?_,λc d=>?_⟩,?_,?_⟩
    ·rcases d with d|d
     ·have:=A c d;exact .inr O
     ·exact .inr O
    ·rintro(d|d)
     ·exact(i _ d).2.2.1 rfl
     ·omega
    ·rintro(d|d)
     ·exact(i _ d).2.2.2.1 rfl
     ·omega
    ·have:((Za b).take (k+1)).filter (jJ H.sp)=((Za b).take k).filter (jJ H.sp)++[z]:=by
      rw[K,uq,uG (by rw[←hr];exact N)];rfl
     rw[this];refine aI.bS h8 e9 λc _ d (hx:c=M.size)=>?_;rcases d with d|d
     ·exact(i _ d).2.2.2.2 hx
     ·omega
    ·rcases d with d|d
     ·have:=A c d;omega
     ·omega
    ·rw[y.2 _ O (by rintro(d|d);exact(i _ d).1 rfl;omega)];exact g.2 _ O id
    ·rw[y.2 _ O (by rintro(d|d);exact(i _ d).2.1 rfl;omega)];exact g.2 _ O id
   ·refine⟨⟨B.trans g,g.bT E id,g.bT G id,sl,Q,g.bT C id,?_,λc d=>?_⟩,g.2 _ O id,g.2 _ O id⟩
    ·have:((Za b).take (k+1)).filter (jJ H.sp)=((Za b).take k).filter (jJ H.sp):=by
      rw[K,uq,uf (by rw[←hr,N];decide),List.filter_nil,kP]
     rw[this];exact F
    ·have:=A c d;omega
  ·refine cO (λh=>hJ _ _ ⟨rfl,by unfold jJ;rw[h];rfl⟩) λh=>F7 z O O (hJ _ _ ⟨rfl,by unfold jJ;rw[h];rfl⟩)
 ·rintro s ⟨B,E,G,sl,Q,C,D,A⟩ hD;rw[mK]at D;refine C.uy rfl (CR hD λw W=>?_);have hz:=W.1;refine hR sl w Q (Ext.dT B W λc d=>.inr O) (aI.bS D W λc _ X d=>?_) λc d=>?_
  ·have:=A c X;omega
  ·have:=A c d;omega
end Go.Ar
namespace Go.Ar
open Go Go.Vc Go.Proofs
open Go.Vc (bW dB cS)
variable {U w w':Hp}{F P Q X:Rg}{L:dK}{H H':Hw}{held:List Pc}{s0:Sp}{t n:Nat}{g:Th}{σ0:Hp}{addrs:Sl}{ad:List Int}{l:Sl}{ds:List fP}
theorem gZ.push (p:gZ σ0 U L H held s0 P Q addrs ad){s':Sl}{x:Int}(e:Ext Q U w)(hr:bR s' 1 (Wo (ad++[x])) w (λb=>Q b\/U.size<=b/\b<w.size))(hl:(ad++[x]).length<=60):gZ σ0 w L H held s0 P (λb=>Q b\/U.size<=b/\b<w.size) s' (ad++[x]):=by
 have j:=e.1;have i:=p.e.1;refine⟨Ext.dT p.e e λb a=>.inr (p.pQ b a).1,p.h.bS e (λb a d g=>(p.pQ b g).2.2 d) (λb a=>p.g0.1 b (p.pQ b a).1) (λa=>p.g0.2 (p.pQ _ a).1),p.hi,p.cf,p.pg,λb a=>⟨(p.pP b a).1,by have:=(p.pP b a).2;omega⟩,λb a=>?_,hr,hl,p.g0⟩;rcases a with a|a
 ·exact⟨(p.pQ b a).1,by have:=(p.pQ b a).2.1;omega,(p.pQ b a).2.2⟩
 ·exact⟨O,a.2,λd=>by have:=(p.pP b d).2;omega⟩
theorem Dt {tb:List bZ}{size align:Int}{k:Nat}(h:gL tb size align=some k):∃c,tb[k]?=some c/\size<=(c.size:Int)/\(c.size:Int)%align=0:=by
 unfold gL at h;obtain⟨b,a,_⟩:=nm.1 h;simp only[zF,zU,zT]at a;exact⟨tb[k],cV b,a.1,a.2⟩
theorem MN {tb:List bZ}{size align:Int}(h:size<=16384/\Uw size align=true):size<=(GN tb size align).1/\(GN tb size align).2=0:=by
 unfold GN;rw[zC h];refine⟨?_,rfl⟩;cases hc:gL tb size align with
 | some k=>
  obtain⟨c,a,b,_⟩:=Dt hc;simp only;rw[zP,a];exact b
 | none=>simp only;unfold yq;omega
theorem BB {live:List (Int×Bk)}{x:Int}(b:Bk):bW (dB live x b) x=some b:=by rw[Ug,zC rfl]
end Go.Ar
namespace Go.Ar
open Go Go.Vc Go.Proofs
open Go.Vc (bW dB cS)
open Go.Bu (eU KX UJ)
variable {size align:Int}{U σ0 v w w':Hp}{F P Q X T:Rg}{L:dK}{H H' H1:Hw}{held:List Pc}{s0 sp:Sp}{t n:Nat}{g:Th}{gb km fm m:Nat}{x y:Gu}{b:B5}
theorem _root_.Go.Vc.bX.s2 {U:Hp}{b o i j:Nat}{cs:List Value}(hb:bX U b cs){v:Value}(ho:o+i+j<cs.length){K:aP}(hK:∀h',Qo U h' b->bX h' b (cs.set (o+i+j) v)->K h'):dN (Addr.add (Addr.add ⟨b,o,none⟩ i) j) v U K:=by
 rw[add_lit];exact hb.s1 ho hK
def Mg (P:Rg)(gb km fm:Nat):Rg:=λb=>P b\/b=gb\/b=km\/b=fm
def nq (size align:Int):Bool:=decide (1<=size/\size<=1024/\1<=align/\align<=256)&&eU align
def zA (align:Int):Int:=if 16>align then 16 else align
theorem wc {align:Int}(h:align<=256):16<=zA align/\zA align<=256:=by unfold zA;split<;>omega
structure xS (H:Hw) (x:Gu) (size align:Int) (b:B5) (H1:Hw):Prop where
 me:qc H (zA align+Zq size+16) (zA align) H1 b.2.2.1 0
 a:b.1=b.2.2.1+zA align
 s:b.2.1=size
 u:Kg H1 b.2.2.1=some b.2.2.2.1
 n:b.2.2.2.2=x.no+1
 ok:nq size align=true
 bi:gW b
def l0 (sp:Sp)(b:B5):Sp:=j0 (j0 sp (Za b) jB) (Qw b) λ_=>0
def Gu.fQ (x:Gu)(b:B5):Gu:=⟨dB x.kn b.1 b,x.fr,x.no+1⟩
theorem y8 {a:Int}(h1:1<=a)(h2:a<=256)(hp:eU a=true):a%8=0\/a<8:=by
 by_cases h:a<8
 ·exact .inr h
 ·left;obtain⟨a,rfl⟩:=za (show 0<=a by omega);rw[KX]at hp;have key:∀a:Nat,a<=256->8<=a->(a &&& (a-1)=0)->a%8=0:=by decide +kernel
  have:=key a O O (by have:=UJ (a:=a) O O;rw[hp]at this;simpa using this);omega
theorem Nu (hi:HI H1 held s0)(hok:nq size align=true){base:Int}(me:qc H (zA align+Zq size+16) (zA align) H1 base 0):∃u,Kg H1 base=some u/\gW (base+zA align,size,base,u,x.no+1):=by
 unfold nq at hok;rw[zF,zU]at hok;obtain⟨⟨r,i,j,g⟩,kp⟩:=hok;have y:=wc g;have w:=Z1 (n:=size) O;rcases me with⟨h,_⟩|⟨_,hm,hok,cl,hl,hcl⟩
 ·exact absurd rfl h
 have e:Kg H1 base=some (GN H.tb (zA align+Zq size+16) (zA align)).1:=by unfold Kg;rw[hl,BB];rfl
 have p:=(MN (tb:=H.tb) ⟨hok.2.1,hok.2.2⟩).1;obtain⟨s,b,d⟩:=oy.1 e;have a:=hi.rF (Vj b);simp only at a;rw[d]at a;have m:zA align%8=0:=by
  unfold zA;split
  ·decide
  ·rcases y8 j g kp with h|h
   ·exact h
   ·omega
 exact⟨_,e,⟨⟨r,i⟩,⟨a.2.1,a.2.2.1⟩,⟨by simp only;omega,by simp only;omega,by simp only;omega⟩,⟨by simp only;omega,a.2.2.2.1⟩,by simp only;omega⟩⟩
set_option maxRecDepth 16000 in
theorem EU (p:GP σ0 U L H held s0 P gb km fm x)(gc:Gc σ0)(x0:0<=x.no/\x.no<=100000)(thread size align:Int){R:Int->Int->Hp->Prop}
 (h0:∀w,nq size align=false->bK U w->R 0 1 w)
 (h1:∀e w ts H' held' s0' P',nq size align=true->e≠0->Uf H thread 0 (zA align+Zq size+16) (zA align) 0 H' 0 e->fX H H'->H'.live=H.live->Ext P U w->GP σ0 w {L with ts:=ts} H' held' s0' P' gb km fm x->(∀c,P' c->P c\/U.size<=c)->R 0 e w)
 (h2:∀b w ts H1 held' s0' P',xS H x size align b H1->Uf H thread 0 (zA align+Zq size+16) (zA align) 0 H1 b.2.2.1 0->fX H H1->Ext (Mg P gb km fm) U w->GP σ0 w {L with ts:=ts} {H1 with sp:=l0 H1.sp b} held' s0' P' gb km fm (x.fQ b)->(∀c,P' c->P c\/U.size<=c)->R b.1 0 w) :
 Xn.c (aW gb) thread size align U R:=by
 refine Xn.o ?_;unfold Xn.v;rw[show(if(16:Int)>align then(16:Int)else align)=zA align from rfl]
 refine nw (cs:=[.pointer (some ⟨gb,0,none⟩)]) λv hz e hn4=>hn4.rJ rfl (VO (p.fr e) (cB rfl ?_));refine KF (λr u=>u=v/\r = !decide (1<=size/\size<=1024)) (λr u ⟨hu,hr⟩=>?_) λJ hJ=>cQ (λh=>hJ _ _ ⟨rfl,by rw[zM O];rfl⟩) λh=>hJ _ _ ⟨rfl,?_⟩
 ·rw[hu];refine KF (λr u=>u=v/\r = !decide (1<=size/\size<=1024/\1<=align)) (λr1 u1 ⟨hu1,hr1⟩=>?_) λJ1 hJ1=>?_
  ·rw[hu1];refine KF (λr u=>u=v/\r = !decide (1<=size/\size<=1024/\1<=align/\align<=256)) (λr2 u2 ⟨hu2,hr2⟩=>?_) λJ2 hJ2=>?_
   ·rw[hu2];refine KF (λr u=>u=v/\r = !nq size align) (λr3 u3 ⟨hu3,hr3⟩=>?_) λJ3 hJ3=>?_
    ·rw[hu3];clear hr hr1 hr2 hu hu1 hu2 hu3;by_cases hgk:nq size align=true
     ·refine cB (by rw[hr3,hgk];rfl) ?_;have hk:=hgk;unfold nq at hk;rw[zF,zU]at hk;obtain⟨⟨k1,k2,k3,k4⟩,kp⟩:=hk;have hzz:=wc k4;have hww:=Z1 (n:=size) O;refine nw (cs:=[.int .i64 0,.int .i64 0,.int .i64 0,.int .i64 0,.int .i64 0]) λv6 hz6 e6 b6=>?_;refine b6.s1 aA λv7 o7 b7=>b7.s1 aA λv8 o8 b8=>b8.s1 aA λv9 o9 b9=>b9.s1 aA λv10 gH b10=>b10.s1 aA λv11 o11 b11=>?_;have bb:bX v11 v.size (eW (0,size,0,0,0)):=b11;have eo:Ext (· = v.size) v6 v11:=(((o7.ext.trans o8.ext).trans o9.ext).trans gH.ext).trans o11.ext;have e11:bK v v11:=Ext.fresh e6 eo λi (hi:i=v.size)=>by omega
      have p11:=(p.fr e).fr e11;have M:=e11.bT hn4 id;have zv:U.size<v.size:=by omega
      have zb:=bb.lt;refine⟨λm=>bX m U.size [.pointer (some ⟨gb,0,none⟩)]/\bX m gb (rY L.p km fm x)/\bX m v.size (eW (0,size,0,0,0)),⟨M,p11.b,bb⟩,?_⟩;refine sr (c:=.p) (y:=some ⟨gb,0,none⟩) (λm G=>G.1) rfl (aG (il (c:=.p) (y:=some ⟨L.p,0,none⟩) (λm G=>G.2.1) rfl ?_));refine il (c:=bN) (y:=0) (λm G=>G.2.2) rfl (il (c:=bN) (y:=size) (λm G=>G.2.2) rfl (il (c:=bN) (y:=0) (λm G=>G.2.2) rfl (il (c:=bN) (y:=0) (λm G=>G.2.2) rfl (il (c:=bN) (y:=0) (λm G=>G.2.2) rfl ?_))));refine U7 (0,size,0,0,0) aC aC λv12 B=>⟨⟨B.bT M id,B.bT p11.b id,B.bT bb id⟩,?_⟩;refine ar aC aC (ar aC aC ?_);have p12:=p11.fr B;have e012:=(e.trans e11).trans B;have z1112:=B.1;obtain⟨H',a,er,hw,o,me⟩:=I3 p.hi thread (zA align+Zq size+16) (zA align);obtain⟨held',s0',hi'⟩:=o.hi;refine MI C1 p12.h p12.cf.2.2 hw λv13 ts F h13=>?_;have A:=p12.step F h13 hi' o.kp;have z12:=e012.1;have z13:=F.1;have nP:∀c,U.size<=c->¬P c:=λc h1 h2=>by have:=(p.pP c h2).2;omega
      have S:=F.bT (B.bT M id) (nP _ (zD _));have bb13:=F.bT (B.bT bb id) (nP _ O);refine⟨⟨S,F.bT p12.b p.rm.2,bb13⟩,?_⟩;generalize hP1:Cut (Grow P v12) v13=P1 at A;have E:∀c,P1 c->P c\/U.size<=c:=λc d=>by
       rw[←hP1]at d;exact d.1.imp id λh=>by omega
      have Q:∀c,P1 c->c<v13.size:=λc d=>by rw[←hP1]at d;exact d.2
      have K:∀c,c<v12.size->¬P c->¬P1 c:=λc h1 h2 C=>by
       rw[←hP1]at C;rcases C.1 with h4|h4
       ·exact h2 h4
       ·omega
      have E13:Ext P U v13:=(bK.to e012).trans F;refine cO (λhne=>?_) λheq=>?_
      ·have hne':er≠0:=by simpa using hne
       rcases me with⟨_,ha,hl⟩|⟨h,_⟩
       ·subst ha;exact h1 er v13 ts H' held' s0' P1 hgk hne' hw o hl E13 A E
       ·exact absurd h hne'
      ·have he0:er=0:=by simpa using heq
       subst he0;obtain⟨u,hu,Z⟩:=Nu (x:=x) (size:=size) (align:=align) hi' hgk me;obtain⟨b,g⟩:∃b:B5,b=(a+zA align,size,a,u,x.no+1):=⟨_,rfl⟩;rw[←g]at Z;have hbs:=Z.base;have hbm:=Z.m;have hbz:=Z.z;have hbt:=Z.t;have hb1:b.1=a+zA align:=by rw[g]
       have hb2:b.2.1=size:=by rw[g]
       rw[hb2]at hbt;have N:b.2.2.1=a:=by rw[g]
       have hb4:b.2.2.2.1=u:=by rw[g]
       rw[N]at hbs;have gr:xS H x size align b H':=⟨by rw[N];exact me,by rw[hb1,N],by rw[g],by rw[N,hb4];exact hu,by rw[g],hgk,Z⟩;have hgb13:=A.b.lt;have hvg:v.size≠gb:=λh=>by have:=p.b.lt;omega
       have hsg:U.size≠gb:=λh=>by have:=p.b.lt;omega
       have hvk:v.size≠km:=λh=>by have:=p.m.lt;omega
       have hsk:U.size≠km:=λh=>by have:=p.m.lt;omega
       have hvf:v.size≠fm:=λh=>by have:=p.f.lt;omega
       refine S.rJ rfl (aG (A.b.rI rfl (ar O O (aG (A.b.s1 (by simp[rY]) λX D b14=>?_)))));have p14:GP σ0 X {L with ts:=ts} H' held' s0' P1 gb km fm {x with no:=x.no+1}:=A.fB (D.ext.sub λc d=>.inl d) b14 (D.ext.fO A.m λ(h:km=gb)=>p.n1 h.symm) (D.ext.fO A.f λ(h:fm=gb)=>p.n2 h.symm);have hn14:=D.ext.bT S hsg;have bb14:=D.ext.bT bb13 hvg;refine hn14.rJ rfl (aG (p14.b.rI rfl (ar O O ?_)));refine bb14.s1 (by simp[eW]) λv15 o15 b15=>b15.s2 (by simp[eW]) λv16 o16 b16=>b16.s2 (by simp[eW]) λv17 o17 b17=>?_;have e17:Ext (· = v.size) X v17:=(o15.ext.trans o16.ext).trans o17.ext;have hout:∀c,c<X.size->c=v.size->¬P1 c/\c≠gb/\c≠km/\c≠fm/\σ0.size<=c:=λc _ d=>by
        subst d;have:=p.e.1;exact⟨K _ O (nP _ O),hvg,hvk,hvf,O⟩
       have p17:=p14.out e17 hout;have hn17:=e17.bT hn14 (show ¬U.size=v.size by omega);refine hn17.rJ rfl (aG (p17.b.rP rfl (Eo p17.h a λv18 W=>?_)));rw[hu];refine(W.bT b17 id).s2 (by simp[eW]) λv19 o19 b19=>?_;have j:bX v19 v.size (eW b):=by rw[g];exact b19
       have p18:=p17.fr W;have z17:=o17.1;have z16:=o16.1;have z15:=o15.1;have z14:=D.1;have z18:=W.1;have z19:=o19.1;have p19:=p18.out o19.ext λc hc1 (d:c=v.size)=>by
        subst d;have:=p.e.1;exact⟨K _ O (nP _ O),hvg,hvk,hvf,O⟩
       have hn19:=o19.ext.bT (W.bT hn17 id) (show ¬U.size=v.size by omega);have E19:Ext (Mg P gb km fm) U v19:=by
        refine Ext.dT (((((E13.sub λc d=>.inl d).trans (D.ext.sub λc d=>.inr (.inl d))))):Ext (Mg P gb km fm) U X) (((e17.trans (bK.to W)).trans o19.ext):Ext (· = v.size) X v19) λc (d:c=v.size)=>.inr O
       refine j.rI rfl (j.rI rfl (j.rI rfl (j.rI rfl (j.rI rfl (Ev b λv20 hz20 V b20=>?_)))));have p20:=p19.fr V;have hn20:=V.bT hn19 id;have bb20:=V.bT j id;have z20:=V.1;have E20:Ext (Mg P gb km fm) U v20:=E19.jL V;refine⟨rfl,by kernel_rfl,Za b,_,λk s=>Ext (Mg P gb km fm) U s/\v20.size<=s.size/\bX s U.size [.pointer (some ⟨gb,0,none⟩)]/\bX s v.size (eW b)/\bX s v19.size (eW b)/\∃(s0':Sp) (P':Rg),GP σ0 s {L with ts:=ts} {H' with sp:=j0 H'.sp ((Za b).take k) jB} held' s0' P' gb km fm {x with no:=x.no+1}/\∀c,P' c->P1 c\/v20.size+2<=c,F5 Z,?_,λk s h=>h.2.2.2.2.1,?_,?_,?_⟩
       ·rintro k s s' ⟨i1,i2,i3,i4,i5,s1',P',i6,Y⟩ es;have zs:=es.1;have nn:∀c,c<v20.size->¬(c=v20.size\/c=v20.size+1):=λc h=>by omega
        refine⟨Ext.dT i1 es λc d=>.inr O,O,es.bT i3 (nn _ O),es.bT i4 (nn _ O),es.bT i5 (nn _ O),s1',P',i6.out es λc _ d=>?_,Y⟩;have:=p.e.1;have g1:=p.b.lt;have g2:=p.m.lt;have g3:=p.f.lt;refine⟨λhx=>?_,O,O,O,O⟩;rcases Y c hx with h|h
        ·have:=Q c h;omega
        ·omega
       ·exact⟨E20,zD _,hn20,bb20,b20,s0',P1,p20,λc d=>.inl d⟩
       ·rintro k (z:Int) hk s ⟨i1,i2,i3,i4,i5,s1',P',i6,Y⟩ hsz;have zi:=UW Z (zG hk);have hzk:0<=z/\z<=1000000:=by
         have z1:=zi.1;have z2:=zi.2.2.1;have h0:=Z.base.1;omega
        have htk:(Za b).take (k+1)=(Za b).take k++[z]:=by rw[k6,hk];rfl
        have n7:∀c,c<v20.size+2->(¬P1 c)->¬P' c:=λc h1 h2 C=>(Y c C).elim h2 λh=>by omega
        have q1:¬P1 U.size:=K _ O (nP _ (zD _));have q2:¬P1 v.size:=K _ O (nP _ O);have q3:∀c,v13.size<=c->¬P1 c:=λc h1 h2=>by have:=Q c h2;omega
        refine⟨λm=>bX m U.size [.pointer (some ⟨gb,0,none⟩)]/\bX m gb (rY L.p km fm {x with no:=x.no+1}),⟨i3,i6.b⟩,sr (c:=.p) (y:=some ⟨gb,0,none⟩) (λm h=>h.1) rfl (aG (il (c:=.p) (y:=some ⟨L.p,0,none⟩) (λm h=>h.2) rfl ?_))⟩;refine F7 z hzk.1 hzk.2 ⟨⟨i3,i6.b⟩,?_⟩;refine i6.write gc z (jB z) O λs2 s2' P2 e2 p2 hP2=>?_;have zs2:=e2.1;have i3':=e2.bT i3 (n7 _ O q1);refine⟨⟨i3',p2.b⟩,⟨Ext.dT i1 e2 λc d=>?_,O,i3',e2.bT i4 (n7 _ O q2),e2.bT i5 (n7 _ O (q3 _ O)),s2',P2,?_,λc d=>?_⟩,e2.2 _ O (n7 _ O (q3 _ O)),e2.2 _ O (n7 _ O (q3 _ O))⟩
        ·rcases Y c d with h|h
         ·exact(E c h).imp .inl id
         ·exact .inr O
        ·rw[htk,CA];exact p2
        ·rcases hP2 c d with h|h
         ·exact Y c h
         ·exact .inr O
       ·rintro s ⟨i1,i2,i3,i4,i5,s1',P',i6,Y⟩ hD;rw[mK]at i6;have n7:∀c,c<v20.size+2->(¬P1 c)->¬P' c:=λc h1 h2 C=>(Y c C).elim h2 λh=>by omega
        have q1:¬P1 U.size:=K _ O (nP _ (zD _));have q2:¬P1 v.size:=K _ O (nP _ O);have q3:∀c,v13.size<=c->¬P1 c:=λc h1 h2=>by have:=Q c h2;omega
        refine i3.rJ rfl (i4.rI rfl (i4.rI rfl (i4.rI rfl (i4.rI rfl (i4.rI rfl (D8 i6 gc Z 0 λs2 s2' P2 e2 p2 hP2=>?_))))));have zs2:=e2.1;have hlt:=(zt.1 hD).1;have i3':=e2.bT i3 (n7 _ O q1);have i4':=e2.bT i4 (n7 _ O q2);have hS:∀m,(bX m U.size [.pointer (some ⟨gb,0,none⟩)]/\bX m gb (rY L.p km fm {x with no:=x.no+1})/\bX m v.size (eW b))->bX m v.size (eW b):=λm h=>h.2.2;refine⟨λm=>bX m U.size [.pointer (some ⟨gb,0,none⟩)]/\bX m gb (rY L.p km fm {x with no:=x.no+1})/\bX m v.size (eW b),⟨i3',p2.b,i4'⟩,sr (c:=.p) (y:=some ⟨gb,0,none⟩) (λm h=>h.1) rfl (aG (il (c:=.m) (y:=some km) (λm h=>h.2.1) rfl ?_))⟩;refine og (c:=bN) (y:=b.1) hS rfl (il (c:=bN) (y:=b.1) hS rfl (il (c:=bN) (y:=b.2.1) hS rfl (il (c:=bN) (y:=b.2.2.1) hS rfl (il (c:=bN) (y:=b.2.2.2.1) hS rfl (il (c:=bN) (y:=b.2.2.2.2) hS rfl ⟨km,x.kn,rfl,p2.m,λs3 o3 m3=>?_⟩)))));have p3:GP σ0 s3 {L with ts:=ts} {H' with sp:=l0 H'.sp b} held' s2' P2 gb km fm (x.fQ b):=p2.fB (y:=x.fQ b) (o3.ext.sub λc d=>.inr (.inl d)) (o3.ext.bT p2.b p.n1) m3 (o3.ext.fO p2.f λ(h:fm=km)=>p.n3 h.symm);have zs3:=o3.1;have hkm:=p.m.lt;have hfm:=p.f.lt;have hgb:=p.b.lt;have hD3:s3[v20.size]?=some (.deferred (some [])):=(o3.2 _ O).trans ((e2.2 _ hlt (n7 _ O (q3 _ O))).trans hD);refine(o3.ext.bT i4' hvk).eY rfl (CR hD3 λs4 e4=>?_);have hP2':∀c,P2 c->P c\/U.size<=c:=λc d=>by
         rcases hP2 c d with h|h
         ·rcases Y c h with h|h
          ·exact E c h
          ·exact .inr O
         ·exact .inr O
        refine h2 b s4 ts H' held' s2' P2 gr (by rw[N];exact hw) o ?_ (p3.out e4 λc _ (d:c=v20.size)=>?_) hP2'
        ·have E1:Ext (Mg P gb km fm) U s2:=Ext.dT i1 e2 λc d=>by
          rcases Y c d with h|h
          ·exact(E c h).imp .inl id
          ·exact .inr O
         have E2:Ext (Mg P gb km fm) U s3:=E1.trans (o3.ext.sub λc d=>.inr (.inr (.inl d)));exact Ext.dT E2 e4 λc (d:c=v20.size)=>.inr O
        ·subst d;have:=p.e.1;refine⟨λhx=>?_,O,O,O,O⟩;rcases hP2 _ hx with h|h
         ·exact n7 _ O (q3 _ O) h
         ·omega
     ·exact cD (by rw[hr3];simp[hgk]) (h0 v (by simpa using hgk) e)
    ·by_cases g:1<=size/\size<=1024/\1<=align/\align<=256
     ·refine cB (by rw[hr2,zJ g];rfl) (ar O O (hJ3 _ _ ⟨rfl,?_⟩));rw[OD g.2.2.1 g.2.2.2];unfold nq;rw[zJ g];rfl
     ·refine cD (by rw[hr2,zM g];rfl) (hJ3 _ _ ⟨rfl,?_⟩);unfold nq;rw[zM g];rfl
   ·by_cases g:1<=size/\size<=1024/\1<=align
    ·refine cB (by rw[hr1,zJ g];rfl) (hJ2 _ _ ⟨rfl,?_⟩);by_cases C:align>256
     ·rw[zJ C,zM O];rfl
     ·rw[zM C,zJ O];rfl
    ·exact cD (by rw[hr1,zM g];rfl) (hJ2 _ _ ⟨rfl,by rw[zM O];rfl⟩)
  ·by_cases g:1<=size/\size<=1024
   ·refine cB (by rw[hr,zJ g];rfl) (hJ1 _ _ ⟨rfl,?_⟩);by_cases C:align<1
    ·rw[zJ C,zM O];rfl
    ·rw[zM C,zJ O];rfl
   ·exact cD (by rw[hr,zM g];rfl) (hJ1 _ _ ⟨rfl,by rw[zM O];rfl⟩)
 ·by_cases C:size>1024
  ·rw[zJ C,zM O];rfl
  ·rw[zM C,zJ O];rfl
end Go.Ar
namespace Go.Ar
open Go Go.Vc Go.Proofs Go.RowKit Go.Sort Go.Shelf Go.Lib
variable {U:Hp}{F Q:Rg}{s:Sl}{xs:List Int}
theorem Jk (hrow:bR s 1 (Wo xs) U F)(hlen:xs.length<=1000000){R:aP}(hR:∀ys w,ys.Perm xs->Ext F U w->bR s 1 (Wo ys) w F->R w):KK.c s U R:=by
 rintro w rfl;have A:s.len=xs.length:=by have:=hrow.1;simp[Wo]at this;omega
 rcases hrow.2 with⟨h0,hc0⟩|⟨b,cs,hF,ha,hb,hle,hcl,ht⟩
 ·have G:xs=[]:=uZ.1 O;have:=AnyM.slices_Sort_int_none Tryz.lz s.a s.cap w;show Calls _ _ #[.slice s.a s.len s.cap] w _;rw[h0];refine this.mono ?_;rintro e M ⟨rfl,rfl⟩;exact⟨.refl _,[],rfl,hR xs _ (.refl _) (Ext.refl _ _) hrow⟩
 ·have i:=hb.lt;have N:Holds (Value.int .i64) w b 0 xs.toArray:=by
   intro j hj;have m:j<xs.length:=by simpa using hj
   have H:Vc.cell w.heap ⟨b,0+j,none⟩=some (.int .i64 xs.toArray[j]!):=by
    rw[hb.cell,zH];have:(cs.take (Wo xs).length)[j]?=some (.int .i64 xs[j]):=by rw[ht];simp[Wo,m]
    rw[zj,zC (by simpa[Wo]using m)]at this;rw[this,getElem!_pos xs.toArray j hj];simp
   exact⟨H,hb.nu⟩
  have p:=AnyM.slices_Sort_int Tryz.lz b 0 s.cap xs w N i O;show Calls _ _ #[.slice s.a s.len s.cap] w _;rw[ha,A];refine p.mono ?_;rintro e M ⟨rfl,n,os,rfl⟩;obtain⟨ys,r⟩:∃ys,ys=xs.mergeSort λx y=>decide (x<=y):=⟨_,rfl⟩;have D:ys.Perm xs:=by rw[r];exact List.mergeSort_perm _ _
  have K:ys.length=xs.length:=D.length_eq;rw[←r];obtain⟨J,B⟩:=hb;have d:(grow (putRow (Value.int .i64) (Sort.ahead w n) b 0 ys.toArray) os).heap=(w.heap.modify b (onCells (putCells (Value.int .i64) 0 ys.toArray)))++os:=rfl;have g:(w.heap.modify b (onCells (putCells (Value.int .i64) 0 ys.toArray))).size=w.heap.size:=by simp
  refine⟨⟨rfl,rfl,rfl,by rw[d,yh,g];omega⟩,[],rfl,?_⟩;rw[d];have u:Ext F w.heap ((w.heap.modify b (onCells (putCells (Value.int .i64) 0 ys.toArray)))++os):=by
   refine⟨by rw[yh,g];omega,λq E L=>?_⟩;rw[tB (by rw[g];exact E),uN,zB λ(e:b=q)=>L (by rw[←e];exact hF)]
  refine hR ys _ D u ⟨by simp[Wo];omega,.inr ⟨b,(putCells (Value.int .i64) 0 ys.toArray cs.toArray).toList,hF,ha,⟨J,?_⟩,hle,?_,?_⟩⟩
  ·rw[tB (by rw[g];exact i),uN,zC rfl,B];simp[onCells]
  ·simp[putCells,hcl]
  ·have z:(Wo ys).length=ys.length:=by simp[Wo]
   rw[z];apply zo;intro j;rw[zj];by_cases hj:j<ys.length
   ·rw[zC hj];have C:j<cs.length:=by omega
    simp only[putCells,wB,Array.getElem?_mapIdx,List.getElem?_toArray,cV C,zX];rw[zC ⟨O,by simpa using hj⟩];rw[Nat.sub_zero,getElem!_pos ys.toArray j (by simpa using hj)];simp[Wo,hj]
   ·rw[zB hj,zV O]
theorem CW {b:Nat}:∀(vs:List Value) {cs:List Value} {o i:Nat} {h:Hp} {K:aP},bX h b cs->o+i+vs.length<=cs.length->(∀h',Ext (· = b) h h'->K h')->nk ⟨b,o,none⟩ h vs i K
 | [],cs,o,i,h,K,_,_,hK=>hK h (Ext.refl _ _)
 | v::vs,cs,o,i,h,K,hb,hl,hK=>by
  have hl':o+i+(vs.length+1)<=cs.length:=hl;unfold nk;refine hb.s1 O λe o1 a=>CW vs a (by rw[nG];omega) λd e2=>hK d (o1.ext.trans e2)
theorem LY (hrow:bR s 1 (Wo xs) U F)(hlen:xs.length<=1000000){R:Sl->Hp->Prop}(hR:∀s' w,Ext F U w->(xs.length<=1->bR s' 1 (Wo xs) w F)->R s' w):WS.c s U R:=by
 refine WS.o ?_;unfold WS.v;have S:s.len=xs.length:=by have:=hrow.1;simp[Wo]at this;omega
 refine cQ (λh=>hR s U (Ext.refl _ _) λ_=>hrow) λZ=>?_;have g:¬xs.length<=1:=by omega
 have p:∀s' w,Ext F U w->R s' w:=λs' w e=>hR s' w e λh=>(g h).elim;rcases hrow.2 with⟨h0,hc0⟩|⟨b,cs,hF,ha,hb,hle,hcl,ht⟩
 ·omega
 have d:∀j,j<s.len->∃v:Int,cs[j]?=some (.int .i64 v):=λj C=>by
  have:(cs.take (Wo xs).length)[j]?=some (.int .i64 (xs[j]' O)):=by rw[ht];simp[Wo,show j<xs.length by omega]
  rw[zj,zC (by simp[Wo];omega)]at this;exact⟨_,this⟩
 have r:∀{w},Ext (· = b) U w->Ext F U w:=λe=>e.sub λc (G:c=b)=>by rw[G];exact hF
 have rd:∀{u:Hp} {cs':List Value} {j o:Nat} {K:Int->Prop},bX u b cs'->(∃v:Int,cs'[o+j]?=some (.int .i64 v))->(∀v,K v)->gp .i64 (Addr.add ⟨b,o,none⟩ j) u K:=λA ⟨v,P⟩ L=>A.rI P (L v);have x:∀n:Nat,((List.replicate n [Value.int .i64 0]).flatten).length=n:=λn=>by simp
 rw[ha];refine Z6 (a:=bN) (λ(z:Int) w=>w=U/\∃k:Nat,z=k/\1<=k/\k<=s.len) (λz _=>s.len-z.toNat) ⟨rfl,1,rfl,O,O⟩ ?_;rintro(z:Int) w ⟨rfl,k,rfl,h1,hk⟩;refine cQ (λM=>?_) λN=>p s w (Ext.refl _ _);have W:k<s.len:=by omega
 refine ix O O (rd hb (by rw[zH];exact d _ O) λH=>ar O O (ix O O (rd hb (by rw[zH];exact d _ O) λE=>cO (λ_=>?_) λ_=>cP (m:=k+1) O O ⟨⟨rfl,k+1,rfl,O,O⟩,O⟩)));refine iN (s:=s) (sz:=1) (lo:=k) (hi:=s.len) (mx:=s.cap) O hle (zD _) ?_;rw[zB (show ¬s.cap=k by omega),ha];simp only[zX];refine UH (a:=bN) (bb:=bN) (λ(y z:Int) u=>∃(k1 k2:Nat) (cs':List Value),y=k1/\z=k2/\1<=k2/\k2<=s.len-k/\k<=k1/\k1<=k+k2-1/\Ext (· = b) w u/\bX u b cs'/\cs'.length=s.cap/\∀j,j<s.len->∃v:Int,cs'[j]?=some (.int .i64 v)) (λ_ z _=>(s.len-k)-z.toNat)
  ⟨k,1,cs,rfl,rfl,O,O,O,O,Ext.refl _ _,hb,O,d⟩ ?_
 rintro(y:Int) (z:Int) u ⟨k1,k2,cs',rfl,rfl,g1,g2,g3,g4,eu,hbu,hcl',hin⟩;refine cQ (λB=>?_) λD=>?_
 ·have V:k2<s.len-k:=by omega
  have e1:∀j:Nat,Addr.add (Addr.add ⟨b,0,none⟩ (k*1)) j=Addr.add ⟨b,k,none⟩ j:=λj=>by rw[add_lit,add_lit,add_lit];congr 1;omega
  refine ix O O ?_;rw[e1];refine rd hbu (hin _ O) λH=>ar O O (ix O O ?_);rw[e1];refine rd hbu (hin _ O) λE=>cO (λ_=>?_) λ_=>cP (m:=k2+1) O O ⟨⟨k1,k2+1,cs',rfl,rfl,O,O,O,O,eu,hbu,hcl',hin⟩,O⟩;refine ix O O ?_;rw[e1];refine rd hbu (hin _ O) λv3=>ix O O (hbu.s1 O λY o2 J=>cP (m:=k1+1) O O (cP (m:=k2+1) O O ⟨⟨k1+1,k2+1,_,rfl,rfl,O,O,O,O,eu.trans o2.ext,J,by rw[nG];exact hcl',λj C=>?_⟩,O⟩));rw[mO];split
  ·rw[zC O];exact⟨v3,rfl⟩
  ·exact hin j C
 ·refine iN (s:=s) (sz:=1) (lo:=k1) (hi:=s.len) (mx:=s.cap) O hle (zD _) ?_;rw[zB (show ¬s.cap=k1 by omega),ha];simp only[zX];refine⟨by simp[dQ],?_⟩;simp only[add_lit];refine CW _ hbu ?_ λQ X=>?_
  ·rw[x];omega
  ·refine iN (s:=s) (sz:=1) (lo:=0) (hi:=k1) (mx:=s.cap) O O (zD _) ?_;exact p _ Q (r (eu.trans X))
end Go.Ar
namespace Go.Ar
open Go Go.Vc Go.Proofs
open Go.Vc (bW dB cS)
variable {size align:Int}{U σ0 v w w':Hp}{F P Q X T:Rg}{L:dK}{H H' H1:Hw}{held:List Pc}{s0 sp:Sp}{t n:Nat}{g:Th}{gb km fm m:Nat}{x y:Gu}{b:B5}
def FZ:Int:=-1234567
def mF (H:Hw)(x:Gu)(thread addr:Int)(whole:Bool):Int:=
 if Kc H thread≠0 then Kc H thread else match bW x.kn addr with
 | none=>if(bW x.fr addr).getD false then 9 else 8
 | some b=>if Ux H b then 5 else if whole&&decide (0<(Ke H.sp b).length)then 10 else 0
def Gu.gone (x:Gu)(addr:Int):Gu:=⟨cS x.kn addr,dB x.fr addr true,x.no⟩
def iz (H:Hw)(b:B5):Hw:={H with sp:=j0 H.sp (Qw b) λ_=>FZ}
set_option maxRecDepth 16000 in
theorem Ge (p:GP σ0 U L H held s0 P gb km fm x)(gc:Gc σ0)(xi:∀e∈x.kn,e.1=e.2.1/\gW e.2)(thread addr:Int)(whole:Bool){R:aN}
 (h0:∀w,mF H x thread addr whole≠0->bK U w->R (mF H x thread addr whole) w)
 (h1:∀b w ts H1 held' s0' P' e,bW x.kn addr=some b->mF H x thread addr whole=0->Uf (iz H b) thread 1 0 0 b.2.2.1 H1 0 e->fX (iz H b) H1->oQ (iz H b) thread b.2.2.1 H1 e->Ext (Mg P gb km fm) U w->GP σ0 w {L with ts:=ts} H1 held' s0' P' gb km fm (x.gone addr)->(∀c,P' c->P c\/U.size<=c)->R 0 w) :
 X3.c (aW gb) thread addr whole U R:=by
 refine X3.o ?_;unfold X3.v;refine VO p (cB rfl (SM p thread λC e1=>?_));have p1:=p.fr e1;refine cO (λhne=>?_) λheq=>?_
 ·have hn:Kc H thread≠0:=by simpa using hne
  have he:mF H x thread addr whole=Kc H thread:=by unfold mF;rw[zC hn]
  have:=h0 C (by rw[he];exact hn) e1;rw[he]at this;exact this
 have hrd:Kc H thread=0:=by simpa using heq
 have a:mF H x thread addr whole=match bW x.kn addr with
  | none=>if(bW x.fr addr).getD false then 9 else 8
  | some b=>if Ux H b then 5 else if whole&&decide (0<(Ke H.sp b).length)then 10 else 0:=by
  unfold mF;rw[zB (by rw[hrd];decide)]
 refine aG (p1.b.rM rfl ⟨x.kn,p1.m,?_⟩);refine nw (cs:=[.int .i64 0,.int .i64 0,.int .i64 0,.int .i64 0,.int .i64 0]) λv2 hz2 e2 b2=>b2.s1 aA λv3 o3 b3=>b3.s1 aA λv4 o4 b4=>b4.s1 aA λv5 o5 b5=>b5.s1 aA λv6 o6 b6=>b6.s1 aA λv7 o7 b7=>?_;have eo:Ext (· = C.size) v2 v7:=(((o3.ext.trans o4.ext).trans o5.ext).trans o6.ext).trans o7.ext;have e17:bK C v7:=Ext.fresh e2 eo λi (hi:i=C.size)=>by omega
 have E:=e1.trans e17;have p7:=p.fr E;have d:bX v7 C.size (eW ((bW x.kn addr).getD (0,0,0,0,0))):=b7;cases hk:bW x.kn addr with
 | none=>
  rw[hk]at a;simp only at a;refine KF (λr u=>u=v7/\r=(bW x.fr addr).getD false) (λr u ⟨Z,F⟩=>?_) λJ N=>cD rfl (aG (p7.b.rM rfl ⟨x.fr,p7.f,N _ _ ⟨rfl,rfl⟩⟩));rw[Z];refine cO (λh=>?_) λh=>cD rfl ?_
  ·rw[←F,h]at a;have:=h0 v7 (by rw[a];decide) E;rw[a]at this;exact this
  ·rw[←F,h]at a;have:=h0 v7 (by rw[a];decide) E;rw[a]at this;exact this
 | some b=>
  rw[hk]at a d;simp only at a;have d:bX v7 C.size (eW b):=d;have G:gW b:=(xi _ (Vj hk)).2;refine KF (λr u=>u=v7/\r=false) (λr u ⟨Z,F⟩=>?_) λJ N=>cB rfl (N _ _ ⟨rfl,rfl⟩);rw[Z];refine cB F (cB rfl (d.rI rfl (d.rI rfl (d.rI rfl (d.rI rfl (d.rI rfl (UT p7 b λv9 e9=>?_)))))));have D:=E.trans e9;have p9:=p.fr D;have j:=e9.bT d id;refine cO (λhl=>?_) λhl=>?_
  ·rw[zC hl]at a;have:=h0 v9 (by rw[a];decide) D;rw[a]at this;exact this
  rw[zB (by rw[hl];decide)]at a;refine KF (λr u=>bK U u/\bX u C.size (eW b)/\r=(whole&&decide (0<(Ke H.sp b).length))) (λr u ⟨K,A,F⟩=>?_) λJ N=>cO (λM=>?_) λM=>N _ _ ⟨D,j,by rw[M];rfl⟩
  ·refine cO (λh=>?_) λh=>?_
   ·rw[←F,zC h]at a;have:=h0 u (by rw[a];decide) K;rw[a]at this;exact this
   ·rw[←F,zB (by rw[h];decide)]at a;have pu:=p.fr K;have zu:=K.1;have z1:=e1.1;refine A.rI rfl (A.rI rfl (A.rI rfl (A.rI rfl (A.rI rfl (D8 pu gc G (-1234567) λu1 S P1 ef W V=>?_)))));have nP:¬P C.size:=λhx=>by have:=(p.pP _ hx).2;omega
    have hb1:=ef.bT A nP;have zf:=ef.1;refine aG (W.b.rM rfl ⟨x.kn,W.m,λu2 o2 _ m2=>?_⟩);have o2:=o2 km rfl;have X:GP σ0 u2 L (iz H b) held S P1 gb km fm ⟨cS x.kn addr,x.fr,x.no⟩:=W.fB (y:=⟨cS x.kn addr,x.fr,x.no⟩) (o2.ext.sub λc g=>.inr (.inl g)) (o2.ext.bT W.b p.n1) m2 (o2.ext.fO W.f λ(h:fm=km)=>p.n3 h.symm);refine aG (X.b.rM rfl ⟨fm,x.fr,rfl,X.f,λu3 B m3=>?_⟩);have Y:GP σ0 u3 L (iz H b) held S P1 gb km fm (x.gone addr):=X.fB (y:=x.gone addr) (B.ext.sub λc g=>.inr (.inr g)) (B.ext.bT X.b p.n2) (B.ext.fO X.m p.n3) m3;have hkm:=p.m.lt;have hfm:=p.f.lt;have hb3:=B.ext.bT (o2.ext.bT hb1 (show ¬C.size=km by omega)) (show ¬C.size=fm by omega);obtain⟨H',er,M,o,fe⟩:=Pv Y.hi thread b.2.2.1 (by have:=G.base;have:=G.m;have:=G.t;have:=G.z;have:=G.s;have:=Z1 (n:=b.2.1) O;unfold iE;omega);obtain⟨held',s0',aa⟩:=o.hi;refine aG (Y.b.rP rfl (hb3.eY rfl (RM C1 Y.h Y.cf.2.2 M λu4 ts e4 h4=>?_)));have p5:=Y.step e4 h4 aa o.kp;have z2:=o2.1;have z3:=B.1;have z4:=e4.1;refine h1 b u4 ts H' held' s0' _ er hk a M o fe ?_ p5 λc g=>?_
    ·have E1:Ext (Mg P gb km fm) U u1:=(bK.to K).trans (ef.sub λc g=>.inl g);have E3:Ext (Mg P gb km fm) U u3:=(E1.trans (o2.ext.sub λc g=>.inr (.inr (.inl g)))).trans (B.ext.sub λc g=>.inr (.inr (.inr g)));exact Ext.dT E3 e4 λc g=>(V c g).imp .inl λh=>by omega
    ·rcases g.1 with g|g
     ·exact(V c g).imp id λh=>by omega
     ·exact .inr O
  ·refine j.rI rfl (j.rI rfl (j.rI rfl (j.rI rfl (j.rI rfl (Hg p9 G λs u Q K hs hQ=>N _ _ ⟨D.trans K,K.bT j id,?_⟩)))));have:s.len=(Ke H.sp b).length:=by have:=hs.1;simp[Wo]at this;omega
   rw[M,this,qE,l3,decide_eq_true_iff,decide_eq_true_iff];omega
def Aa (H:Hw)(x:Gu)(addr:Int):Int:=match bW x.kn addr with
 | none=>8
 | some b=>if Ux H b then 5 else 0
def Be (H:Hw)(x:Gu)(addr:Int):List Int:=match bW x.kn addr with
 | none=>[]
 | some b=>if Ux H b then[]else Ke H.sp b
set_option maxRecDepth 16000 in
theorem EO (p:GP σ0 U L H held s0 P gb km fm x)(xi:∀e∈x.kn,e.1=e.2.1/\gW e.2)(addr:Int){R:Sl->Int->Hp->Prop}
 (hR:∀s w Q,bK U w->bR s 1 (Wo (Be H x addr)) w Q->(∀c,Q c->U.size<=c/\c<w.size)->R s (Aa H x addr) w):XA.c (aW gb) addr U R:=by
 refine XA.o ?_;unfold XA.v;refine VO p (cB rfl (aG (p.b.rM rfl ⟨x.kn,p.m,?_⟩)));refine nw (cs:=[.int .i64 0,.int .i64 0,.int .i64 0,.int .i64 0,.int .i64 0]) λA N e2 C=>C.s1 aA λv3 o3 M=>M.s1 aA λv4 o4 b4=>b4.s1 aA λv5 o5 z=>z.s1 aA λY o6 W=>W.s1 aA λv7 o7 K=>?_;have X:Ext (· = U.size) A v7:=(((o3.ext.trans o4.ext).trans o5.ext).trans o6.ext).trans o7.ext;have r:bK U v7:=Ext.fresh e2 X λi (Z:i=U.size)=>by omega
 have J:=p.fr r;have a:bX v7 U.size (eW ((bW x.kn addr).getD (0,0,0,0,0))):=K;have nil:∀w,bR ⟨none,0,0⟩ 1 (Wo []) w (λ_=>False):=λw=>⟨rfl,.inl ⟨rfl,rfl⟩⟩;unfold Aa Be at hR;cases hk:bW x.kn addr with
 | none=>
  rw[hk]at hR;exact cD rfl (hR _ v7 _ r (nil _) λc h=>h.elim)
 | some b=>
  rw[hk]at a hR;simp only at hR;have a:bX v7 U.size (eW b):=a;have F:gW b:=(xi _ (Vj hk)).2;refine cB rfl (a.rI rfl (a.rI rfl (a.rI rfl (a.rI rfl (a.rI rfl (UT J b λV y=>?_))))));have g:=r.trans y;have S:=p.fr g;have d:=y.bT a id;refine cO (λj=>?_) λj=>?_
  ·rw[j]at hR;exact hR _ V _ g (nil _) λc h=>h.elim
  ·rw[j]at hR;refine d.rI rfl (d.rI rfl (d.rI rfl (d.rI rfl (d.rI rfl (Hg S F λs u Q G E D=>?_)))));have:=g.1;exact hR s u Q (g.trans G) E λc B=>by have:=D c B;omega
theorem Dx {α:Type}{n:Int}{x:α}:∀{l:List (Int×α)},(l.map (·.1)).Nodup->(n,x)∈l->l.Perm ((n,x)::l.filter λy=>!(y.1==n))
 | [],_,h=>by simp at h
 | z::l,hn,h=>by
  simp only[zS,zr]at hn;rcases zW.1 h with h1|h1
  ·subst h1;have:l.filter (λy=>!(y.1==n))=l:=by
    rw[po];intro y hy;have:y.1≠n:=λe=>hn.1 (zE.2 ⟨y,hy,e⟩);simpa using this
   rw[uf aA,this]
  ·have a:z.1≠n:=λe=>hn.1 (zE.2 ⟨_,h1,e.symm⟩);rw[uG (by simpa using a)];exact((Dx hn.2 h1).cons z).trans (List.Perm.swap _ _ _)
theorem bR.sv {h:Hp}{s y:Sl}{sz bytes e:Nat}{zs xs:List Value}{K:Sl->Hp->Prop}(ho:bR s sz xs h F)(hy:y.len=0)(hb:s.len*bytes<=2^46)(hc:s.len<=2^62)(hK:K s h):App s sz bytes e zs y h K:=by
 refine⟨xs,[],ho.1,by rw[hy];simp,ho.rd,?_,by simp,by rw[hy];exact hb,by rw[hy];exact hc,λd=>?_,λb=>?_⟩
 ·unfold Rd;split
  ·rfl
  ·intro j v hv;simp at hv
 ·rw[hy];cases ha:s.a with
  | some a=>simp only[nk];rw[←ha];exact hK
  | none=>simp only;rw[←ha];exact hK
 ·exfalso;rw[hy]at b;rcases ho.2 with⟨h1,h2⟩|⟨_,_,_,_,_,h3,_⟩<;>omega
theorem yY {s y:Sl}{xs ys:List Int}{e:Nat}{K:Sl->Hp->Prop}(hr:bR s 1 (Wo xs) U F)(hy:bR y 1 (Wo ys) U Q)(hl:xs.length+ys.length<=10000000)(hK:∀s' w,Ext F U w->bR s' 1 (Wo (xs++ys)) w (λc=>F c\/U.size<=c/\c<w.size)->K s' w):App s 1 8 e [.int .i64 0] y U K:=by
 have a:s.len=xs.length:=by have:=hr.1;simp[Wo]at this;omega
 have u:y.len=ys.length:=by have:=hy.1;simp[Wo]at this;omega
 by_cases h0:y.len=0
 ·have b:ys=[]:=uZ.1 O;subst b;refine bR.sv hr h0 O O (hK s U (Ext.refl _ _) ?_);rw[kP];exact aI.mono hr λc _ m=>.inl m
 ·refine hr.app (ys:=Wo ys) rfl (by simp[Wo];omega) hy.rd (λv d=>?_) O O O λs' w g r p=>hK s' w r ?_
  ·unfold Wo at d;obtain⟨z,_,rfl⟩:=zE.1 d;rfl
  ·have:Wo (xs++ys)=Wo xs++Wo ys:=by simp[Wo]
   rw[this];refine aI.mono (aI.cut p) λc i j=>?_;rcases j.1 with a|a
   ·exact .inl a
   ·exact .inr ⟨a,i⟩
def nW (H:Hw)(e:Int×B5):List Int:=if Ux H e.2 then[]else Ke H.sp e.2
def pw (H:Hw)(x:Gu):List Int:=x.kn.flatMap (nW H)
set_option maxRecDepth 16000 in
theorem LH (p:GP σ0 U L H held s0 P gb km fm x)(xi:∀e∈x.kn,e.1=e.2.1/\gW e.2)(hsw:(pw H x).length<=1000000){R:Sl->Hp->Prop}
 (hR:∀s w,bK U w->((pw H x).length<=1->∃Q,bR s 1 (Wo (pw H x)) w Q/\∀c,Q c->U.size<=c/\c<w.size)->R s w):Yi.c (aW gb) U R:=by
 refine Yi.o ?_;unfold Yi.v;refine VO p (cB rfl (aG (p.b.rM rfl ?_)));refine r5 (a:=.s) p.m (λd (out:Sl) u=>bK U u/\U.size<u.size/\(∀e∈d,e∈x.kn)/\(d.map (·.1)).Nodup/\∃(l:List Int) (Q:Rg),bR out 1 (Wo l) u Q/\(∀c,Q c->U.size+1<=c/\c<u.size)/\(l++d.flatMap (nW H)).Perm (pw H x)) (λv hv ev=>⟨ev,O,λe he=>he,p.m.nodup,[],λ_=>False,⟨rfl,.inl ⟨rfl,rfl⟩⟩,λc h=>h.elim,List.Perm.refl _⟩) ?_ ?_
 ·rintro(out:Sl) u ⟨eu,hlt,_,_,l,Q,hr,G,X⟩;rw[List.flatMap_nil,kP]at X;have N:l.length<=1000000:=by rw[X.length_eq];exact hsw
  have zu:=eu.1;refine Jk hr N λys u2 V e2 hr2=>LY hr2 (by rw[V.length_eq];exact N) λs' u3 e3 hr3=>?_;have E3:bK U u3:=Ext.fresh eu (e2.trans e3) λc j=>by have:=G c j;omega
  refine hR s' u3 E3 λh1=>⟨Q,?_,λc j=>?_⟩
  ·have h2:ys.length<=1:=by rw[V.length_eq,X.length_eq];exact h1
   have:ys=pw H x:=by
    have hq:=V.trans X
    match ys,hq with
    | [],hq=>exact(List.nil_perm.1 hq).symm
    | [a],hq=>exact(List.singleton_perm.1 hq)
    | _::_::_,_=>simp at h2
   rw[this]at hr3 h2;exact hr3 h2
  ·have:=G c j;have:=e2.1;have:=e3.1;omega
 ·rintro d k (b:B5) (out:Sl) u u' J ⟨eu,hlt,M,hnd,l,Q,hr,G,X⟩ K o1 hs1 hJ;have bi:gW b:=(xi _ (M _ K)).2;have zu:=eu.1;have Z:=Dx hnd K;have hQn:∀c,Q c->¬c=U.size:=λc j=>by have:=G c j;omega
  have S:bK U u':=Ext.fresh eu o1.ext λc (j:c=U.size)=>by omega
  have aa:=aI.bS hr o1.ext λc _ j=>hQn c j;have hz':=o1.1;refine nw (cs:=[.int .i64 0,.int .i64 0,.int .i64 0,.int .i64 0,.int .i64 0]) λv2 hz2 e2 b2=>b2.s1 aA λv3 o3 b3=>b3.s1 aA λv4 o4 b4=>b4.s1 aA λv5 o5 b5=>b5.s1 aA λv6 o6 b6=>b6.s1 aA λv7 o7 b7=>?_;have eo:Ext (· = u'.size) v2 v7:=(((o3.ext.trans o4.ext).trans o5.ext).trans o6.ext).trans o7.ext;have e7:bK u' v7:=Ext.fresh e2 eo λi (hi:i=u'.size)=>by omega
  have A:bX v7 u'.size (eW b):=b7;have p7:=(p.fr S).fr e7;refine A.rI rfl (A.rI rfl (A.rI rfl (A.rI rfl (A.rI rfl (UT p7 b λv9 e9=>?_)))));have C:=e9.bT A id;have z:=e7.trans e9;have p9:=p7.fr e9;have hkm:=p.m.lt;have E:∀{w:Hp},bK u' w->w[U.size]?=u'[U.size]?/\w[km]?=u'[km]? := λe=>⟨e.2 _ O id,e.2 _ O id⟩;have D:∀e∈d.filter (λy=>!(y.1==k)),e∈x.kn:=λe he=>M e (zI.1 he).1;have F:((d.filter (λy=>!(y.1==k))).map (·.1)).Nodup:=hnd.sublist (List.filter_sublist.map _);refine cO (λhnl=>?_) λhl=>?_
  ·have Y:Ux H b=false:=by simpa using hnl
   have W:nW H (k,b)=Ke H.sp b:=by unfold nW;rw[Y];rfl
   refine C.rI rfl (C.rI rfl (C.rI rfl (C.rI rfl (C.rI rfl (Hg p9 bi λs u10 Q2 e10 hs hQ2=>?_)))));have r:=z.trans e10;have ab:=aI.bO aa r;have g:((l++Ke H.sp b)++(d.filter (λy=>!(y.1==k))).flatMap (nW H)).Perm (pw H x):=by
    refine List.Perm.trans ?_ X;rw[jY];refine List.Perm.append_left l ?_;have:=Z.flatMap_right (nW H);rw[oS,W]at this;exact this.symm
   have N:l.length+(Ke H.sp b).length<=1000000:=by
    have:=g.length_eq;rw[zO,zO]at this;omega
   refine yY ab hs O λout1 u11 B hr11=>?_;have z10:=r.1;have ac:∀c,c<=U.size->¬Q c:=λc h1 h2=>by have:=G c h2;omega
   refine hJ out1 u11 ?_ ?_ ⟨Ext.fresh (S.trans r) B λc j=>by have:=G c j;omega,by have:=B.1;omega,D,F,l++Ke H.sp b,_,hr11,λc j=>?_,g⟩
   ·rw[B.2 _ O (ac _ (zD _))];exact(E r).1
   ·rw[B.2 _ O (ac _ O)];exact(E r).2
   ·have z11:=B.1;rcases j with j|j
    ·have:=G c j;omega
    ·omega
  ·have Y:Ux H b=true:=by simpa using hl
   have W:nW H (k,b)=[]:=by unfold nW;rw[Y];rfl
   have g:(l++(d.filter (λy=>!(y.1==k))).flatMap (nW H)).Perm (pw H x):=by
    refine List.Perm.trans ?_ X;refine List.Perm.append_left l ?_;have:=Z.flatMap_right (nW H);rw[oS,W]at this;exact this.symm
   have z9:=z.1;exact hJ out v9 (E z).1 (E z).2 ⟨S.trans z,O,D,F,l,Q,aI.bO aa z,λc j=>by have:=G c j;omega,g⟩
end Go.Ar
namespace Go.Proofs
open Go.Shelf
end Go.Proofs
namespace Go.Ar
open Go Go.Vc Go.Proofs Go.RowKit Go.Maps Go.Sort Go.Shelf
open Go.Vc (bW dB cS)
open Go.Bu (lU UM Vv UR KZ xV)
variable {U w w':Hp}{F P Q X S:Rg}{L:dK}{H H':Hw}{held:List Pc}{s0 sp:Sp}{t n:Nat}{g:Th}{σ0:Hp}
def k8 (b:Bk):List Value:=[.int .i64 b.1,.int .i64 b.2.1,.int .i64 b.2.2.1,.int .i64 b.2.2.2]
def jy (bs:List Bk):List Value:=bs.flatMap k8
theorem AU (bs:List Bk):(jy bs).length=bs.length*4:=by
 unfold jy
 induction bs with
 | nil=>rfl
 | cons b bs ih=>rw[oS,zO,ih];simp[k8];omega
theorem B8:∀{bs:List Bk} {i:Nat} {b:Bk},bs[i]?=some b->∀{j:Nat} {v:Value},(k8 b)[j]?=some v->(jy bs)[4*i+j]?=some v
 | [],i,b,h,_,_,_=>by simp at h
 | a::bs,0,b,h,j,v,hv=>by
  simp only[xP,Option.some.injEq]at h;subst h;have hj:=(cW.1 hv).1;show(k8 a++jy bs)[4*0+j]?=_;rw[show 4*0+j=j by omega,ze hj];exact hv
 | a::bs,i+1,b,h,j,v,hv=>by
  have d:=B8 (bs:=bs) (i:=i) (b:=b) (by simpa using h) hv;show(k8 a++jy bs)[4*(i+1)+j]?=_;rw[zp (by simp[k8];omega)];have:4*(i+1)+j-(k8 a).length=4*i+j:=by simp[k8];omega
  rw[this];exact d
theorem cU.tg {B:Nat}{s:Sl}{xs:List Value}(h:lU B U s xs):cU s 1 xs U (λb=>B<=b):=by
 refine⟨by have:=h.1;omega,?_⟩;rcases h.2 with⟨h0,_⟩|⟨b,cs,hb,ha,hk,hc⟩
 ·exact .inl h0
 ·exact .inr ⟨b,0,cs,hb,ha,hk.q,λj a=>by rw[zH];exact hc j a⟩
theorem Su {s:Sl}{bs:List Bk}(hs:cU s 4 (jy bs) U F){i:Nat}{b:Bk}(hb:bs[i]?=some b){K:Addr->Prop}(hK:∀bb o,(∀(j:Nat) v,(k8 b)[j]?=some v->cell U ⟨bb,o+j,none⟩=some v)->K ⟨bb,o,none⟩):Ix s.a s.len (i:Int) 4 K:=by
 have g:=(cW.1 hb).1;have u:s.len=bs.length:=by have:=hs.1;rw[AU]at this;omega
 obtain⟨bb,o,e,r⟩:=hs.cell (B8 hb (j:=0) rfl);rw[e];refine ix O O ?_;rw[add_lit,dE];refine hK bb _ λj v m=>?_;obtain⟨w,x,d,p⟩:=hs.cell (B8 hb m);rw[e]at d;cases d;rw[←p];congr 2;omega
end Go.Ar
namespace Go.Proofs
open Go.Shelf
def Tryz.hO:Go.Shelf.Ren:=⟨fun|7=>51|10=>85|n=>n,fun|23=>71|26=>3|3=>95|28=>98|0=>0|27=>97|33=>142|4=>4|n=>n,fun|n=>n⟩
theorem Tryz.kI:Go.Proofs.SlLaysZI.n7 Tryz.prog Tryz.hO:={
 mixed:=by kernel_rfl
 f7:=⟨Tryz.f51.name,by decide,Tryz.func51.trans (congrArg some (by kernel_rfl))⟩
 f10:=⟨Tryz.f85.name,by decide,Tryz.func85.trans (congrArg some (by kernel_rfl))⟩
 t0:=Tryz.underlying0
 a0:=Tryz.isAgg0
 z0:=Tryz.sizeOf0
 v0:=Tryz.zeroValue0
 t4:=Tryz.underlying4
 a4:=Tryz.isAgg4
 z4:=Tryz.sizeOf4
 v4:=Tryz.zeroValue4
 t23:=Tryz.underlying71
 a23:=Tryz.isAgg71
 z23:=Tryz.sizeOf71
 v23:=Tryz.zeroValue71
 t26:=Tryz.underlying3
 a26:=Tryz.isAgg3
 z26:=Tryz.sizeOf3
 v26:=Tryz.zeroValue3
 t27:=Tryz.underlying97
 a27:=Tryz.isAgg97
 z27:=Tryz.sizeOf97
 v27:=Tryz.zeroValue97
 t28:=Tryz.underlying98
 a28:=Tryz.isAgg98
 z28:=Tryz.sizeOf98
 v28:=Tryz.zeroValue98
 t33:=Tryz.underlying142
 a33:=Tryz.isAgg142
 z33:=Tryz.sizeOf142
 v33:=Tryz.zeroValue142}
end Go.Proofs
namespace Go.Proofs
open Go.Vc
set_option maxRecDepth 100000
def X8.h:Hn:=.q .o1 (.q .o6 .l)
def X8.v (a:Int)(b:Hp)(c:aN):Prop:=bL (a+8) λd=>bL (d-1) λe=>Nz 8<|bL (e.tdiv 8) λf=>bL (f*8) λg=>c g b
theorem X8.o {a b c}(d:X8.v a b c):X8.c a b c:=Wa Tryz.func15 (x:=X8.h) (R0 d)
def XI.h:Hn:=.q .o1 (.q (.q .o5 .aK) (.q (.q .o1 (.k (.loop [(5,.I)] (.q (.q .o4 (.c .l .l)) (.q (.k (.q (.oq 9) .aK)) .o3))))) .aM))
def XI.v (a b:Sl)(c:Hp)(d:aO):Prop:=If (((a.len:Nat):Int) != ((b.len:Nat):Int)) (d false c) (Ys [bN] (λe=>e 0 c) λf (g:Int) h=>If (g<((a.len:Nat):Int)) (Ix a.a a.len g 1 λi=>bM i h λj=>Ix b.a b.len g 1 λk=>bM k h λl=>If (j != l) (d false h) (bL (g+1) λm=>f m h)) (d true h))
theorem XI.o {a b c d}(e:XI.v a b c d):XI.c a b c d:=Wa Tryz.func30 (x:=XI.h) (R0 e)
end Go.Proofs
namespace Go.Ar
open Go Go.Vc Go.Proofs Go.RowKit Go.Maps Go.Sort Go.Shelf
open Go.Vc (bW dB cS)
open Go.Bu (lU UM Vv UR KZ xV)
variable {size align:Int}{U σ0 v w w':Hp}{F P Q X T:Rg}{L:dK}{H H' H1:Hw}{held:List Pc}{s0 sp:Sp}{t n:Nat}{g:Th}{gb km fm m:Nat}{x y:Gu}{b:B5}
theorem BX {k:IntKind}{c:CK}{l:List (Int×c.T)}{r:Nat}{a a':CK}{x0:a.T}{y0:a'.T}{A:a.T->a'.T->Hp->Prop}{body:Int->c.T->a.T->a'.T->Hp->(a.T->a'.T->Hp->Prop)->Prop}(hm:dI U r k c l)(I:List (Int×c.T)->a.T->a'.T->Hp->Prop)
 (h0:∀v,v.size=U.size+1->bK U v->I l x0 y0 v)
 (hend:∀z y v,I [] z y v->A z y v)
 (hstep:∀todo n x z y v v' (J:a.T->a'.T->Hp->Prop),I todo z y v->(n,x)∈todo->Qo v v' U.size->U.size<v.size->(∀z' y' w,w[U.size]?=v'[U.size]?->w[r]?=v'[r]?->I (todo.filter λy=>!(y.1==n)) z' y' w->J z' y' w)->body n x z y v' J) :
 nN k c (some r) U λit v3=>Ys [a,a'] (λI=>I x0 y0 v3) λJ1 z y v4=>nQ k c it v4 (A z y v4) λ_ _ v5=>nT k c it v5 λkey1 val1=>body key1 val1 z y v5 J1:=by
 refine⟨l,hm,λv Q M L=>?_⟩;have H:bK U v:=⟨O,λb B _=>M b B⟩;refine UH (a:=a) (bb:=a') (λz y w=>∃todo d,It w U.size k c (some r) l todo d/\I todo z y w/\U.size<w.size) (λ_ _ w=>u6 w U.size r) ⟨l,none,L,h0 v Q H,O⟩ ?_;rintro z y w ⟨todo,d,i,D,s⟩;refine⟨rfl,some r,l,todo,d,i,λG=>?_,λn x E P N g=>?_⟩
 ·subst G;exact hend z y w D
 ·refine⟨rfl,some r,l,_,n,x,g,hstep todo n x z y w P _ D E N s λz' y' u m j p=>?_⟩;have e:=g.bS m j;refine⟨⟨_,_,e,p,?_⟩,?_⟩
  ·obtain⟨R,K,C,F,_⟩:=e;exact(zt.1 F).1
  ·rw[e.num,i.num];exact BO.2 ⟨(n,x),E,by simp⟩
def lf (ofV:B5->Int)(addr:Int)(b:B5):Prop:=b.1<=addr/\addr<b.1+ofV b
instance (ofV:B5->Int) (addr:Int) (b:B5):Decidable (lf ofV addr b):=by unfold lf;infer_instance
set_option maxRecDepth 16000 in
theorem FY (p:GP σ0 U L H held s0 P gb km fm x)(xi:∀e∈x.kn,e.1=e.2.1/\gW e.2)(addr:Int){ofv:Fv}{ofV:B5->Int}(hov:∀b,gW b->0<=ofV b/\ofV b<=100000)
 (hof:∀(b:B5) (u:Hp) (K:aN),gW b->(∀u',bK u u'->K (ofV b) u')->VP Tryz.prog ofv [.agg #[.int .i64 b.1,.int .i64 b.2.1,.int .i64 b.2.2.1,.int .i64 b.2.2.2.1,.int .i64 b.2.2.2.2]] [.one bN] u K)
 {R:Int->Int->Int->Int->Int->Bool->Hp->Prop}
 (h0:∀(b:B5) w,bK U w->(∀e∈x.kn,¬lf ofV addr e.2)->R b.1 b.2.1 b.2.2.1 b.2.2.2.1 b.2.2.2.2 false w)
 (h1:∀e w,bK U w->e∈x.kn->lf ofV addr e.2->R e.2.1 e.2.2.1 e.2.2.2.1 e.2.2.2.2.1 e.2.2.2.2.2 true w) :
 Y6.c (aW gb) addr ofv U R:=by
 refine Y6.o ?_;unfold Y6.v;refine nw (cs:=eW (0,0,0,0,0)) λv hz e b6=>nw (cs:=eW (0,0,0,0,0)) λv1 hz1 e1 b8=>?_;have e01:=e.trans e1;have p1:=p.fr e01;refine aG (p1.b.rM rfl ?_);refine BX (a:=.b) (a':=.b) p1.m (λj (d E:Bool) u=>bK U u/\v1.size<u.size/\bX u U.size (eW (0,0,0,0,0))/\(∀e∈j,e∈x.kn)/\∃iF:B5,bX u v.size (eW iF)/\(d=false->∀e∈x.kn,e∈j\/¬lf ofV addr e.2)/\(d=true->∃e∈x.kn,e.2=iF/\lf ofV addr e.2))
  (λu hu Z=>⟨e01.trans Z,O,Z.bT (e1.bT b6 id) id,λe D=>D,(0,0,0,0,0),Z.bT b8 id,λ_ e D=>.inl D,λh=>by cases h⟩) ?_ ?_
 ·rintro(d:Bool) (E:Bool) u ⟨Z,hlt,hb6,_,iF,C,hf0,hf1⟩;refine C.rI rfl (C.rI rfl (C.rI rfl (C.rI rfl (C.rI rfl ?_))));refine hb6.s1 (by simp[eW]) λv3 o3 b3=>b3.s1 (by simp[eW]) λv4 o4 b4=>b4.s1 (by simp[eW]) λv5 o5 b5=>b5.s1 (by simp[eW]) λv6 o6 b6=>b6.s1 (by simp[eW]) λv7 o7 b7=>?_;have eo:Ext (· = U.size) u v7:=(((o3.ext.trans o4.ext).trans o5.ext).trans o6.ext).trans o7.ext;have e7:bK U v7:=Ext.fresh Z eo λi (hi:i=U.size)=>by omega
  have A:bX v7 U.size (eW iF):=b7;refine A.rI rfl (A.rI rfl (A.rI rfl (A.rI rfl (A.rI rfl ?_))));cases d with
  | false=>exact h0 iF v7 e7 λe D=>(hf0 rfl e D).resolve_left aA
  | true=>
   obtain⟨e,D,rfl,M⟩:=hf1 rfl;exact h1 e v7 e7 D M
 ·rintro j k (b:B5) (d:Bool) (E:Bool) u u' J ⟨Z,hlt,hb6,F,iF,C,hf0,hf1⟩ Q o1 hs1 hJ;have bi:gW b:=(xi _ (F _ Q)).2;have ov:=hov b bi;have zu:=Z.1;have hz':=o1.1;have hbm:=bi.m;have hbz:=bi.z;have hbb:=bi.base;have hbt:=bi.t;have hbs:=bi.s;have hww:=Z1 (n:=b.2.1) O;have eu':bK U u':=Ext.fresh Z o1.ext λc (hc:c=v1.size)=>by omega
  have Y:=o1.ext.bT hb6 (show ¬U.size=v1.size by omega);have X:=o1.ext.bT C (show ¬v.size=v1.size by omega);have hkm:=p.m.lt;refine nw (cs:=eW (0,0,0,0,0)) λv2 hz2 e2 b2=>b2.s1 (by simp[eW]) λv3 o3 b3=>b3.s1 (by simp[eW]) λv4 o4 b4=>b4.s1 (by simp[eW]) λv5 o5 b5=>b5.s1 (by simp[eW]) λv6 o6 b6=>b6.s1 (by simp[eW]) λv7 o7 b7=>?_;have eo:Ext (· = u'.size) v2 v7:=(((o3.ext.trans o4.ext).trans o5.ext).trans o6.ext).trans o7.ext;have e7:bK u' v7:=Ext.fresh e2 eo λi (hi:i=u'.size)=>by omega
  have A:bX v7 u'.size (eW b):=b7;have W:∀{w:Hp},bK u' w->w[v1.size]?=u'[v1.size]?/\w[km]?=u'[km]? := λe=>⟨e.2 _ O id,e.2 _ O id⟩;have S:∀e∈j.filter (λy=>!(y.1==k)),e∈x.kn:=λe D=>F e (zI.1 D).1;have hkb:∀e∈x.kn,e∈j->e∈j.filter (λy=>!(y.1==k))\/e=(k,b):=λe D ht=>by
   by_cases hk:e.1=k
   ·right;have h1:=QA p.m.nodup (show(e.1,e.2)∈x.kn from D);have h2:=QA p.m.nodup (F _ Q);rw[hk,h2]at h1;exact Prod.ext hk (Option.some.inj h1).symm
   ·exact .inl (zI.2 ⟨ht,by simpa using hk⟩)
  have same:∀w,bK u' w->(d=false->¬lf ofV addr b)->J d E w:=λw ew hnb=>by
   have zw:=ew.1;refine hJ d E w (W ew).1 (W ew).2 ⟨eu'.trans ew,O,ew.bT Y id,S,iF,ew.bT X id,λB e D=>?_,hf1⟩;rcases hf0 B e D with h|h
   ·rcases hkb e D h with h|rfl
    ·exact .inl h
    ·exact .inr (hnb B)
   ·exact .inr h
  refine yC (λr u2=>bK u' u2/\bX u2 u'.size (eW b)/\r = !decide (lf ofV addr b)) (λr u2 ⟨eu2,G,hr⟩=>?_) λJ1 hJ1=>?_
  ·by_cases M:lf ofV addr b
   ·refine cB (by rw[hr,zJ M];rfl) ?_;have pu:=(p.fr eu').fr eu2;refine G.rI rfl (G.rI rfl (G.rI rfl (G.rI rfl (G.rI rfl (UT pu b λV e17=>?_)))));have E17:=eu2.trans e17;have g:=e17.bT G id;have h617:=E17.bT Y id;have aa:=E17.bT X id;refine KF (λr u3=>u3=V/\(d=false->r=true)) (λr u3 ⟨hu3,hr3⟩=>?_) λJ2 hJ2=>?_
    ·rw[hu3];refine KF (λr1 u4=>u4=V/\(d=false->r1=true)) (λr1 u4 ⟨hu4,hr4⟩=>?_) λJ3 hJ3=>?_
     ·rw[hu4];refine cO (λh1=>?_) λh1=>same V E17 λB=>by rw[hr4 B]at h1;cases h1
      refine g.rI rfl (g.rI rfl (g.rI rfl (g.rI rfl (g.rI rfl ?_))));refine aa.s1 (by simp[eW]) λw3 q3 c3=>c3.s1 (by simp[eW]) λw4 q4 c4=>c4.s1 (by simp[eW]) λw5 q5 c5=>c5.s1 (by simp[eW]) λw6 q6 c6=>c6.s1 (by simp[eW]) λw7 q7 c7=>?_;have qo:Ext (· = v.size) V w7:=(((q3.ext.trans q4.ext).trans q5.ext).trans q6.ext).trans q7.ext;have c7':bX w7 v.size (eW b):=c7;have z17:=E17.1;have zq:=qo.1;refine hJ true _ w7 ?_ ?_ ⟨Ext.fresh (eu'.trans E17) qo λc (hc:c=v.size)=>O,O,qo.bT h617 (show ¬U.size=v.size by omega),S,b,c7',λh=>(by cases h),λ_=>⟨(k,b),F _ Q,rfl,M⟩⟩
      ·rw[qo.2 _ O (show ¬v1.size=v.size by omega)];exact(W E17).1
      ·rw[qo.2 _ O (show ¬km=v.size by omega)];exact(W E17).2
     ·refine cO (λh=>hJ3 _ _ ⟨rfl,λ_=>rfl⟩) λh=>?_;have N:¬d=false:=λB=>by rw[hr3 B]at h;cases h
      exact bV.intro (cO (λ_=>g.rI rfl (aa.rI rfl (hJ3 _ _ ⟨rfl,λB=>(N B).elim⟩))) λ_=>hJ3 _ _ ⟨rfl,λB=>(N B).elim⟩)
    ·refine cO (λh=>hJ2 _ _ ⟨rfl,λ_=>rfl⟩) λh=>?_;have N:¬d=false:=λB=>by rw[B]at h;cases h
     exact bV.intro (cO (λ_=>hJ2 _ _ ⟨rfl,λB=>(N B).elim⟩) λ_=>hJ2 _ _ ⟨rfl,λB=>(N B).elim⟩)
   ·exact cD (by rw[hr,zM M];rfl) (same u2 eu2 λ_=>M)
  ·have hS:∀m,bK v7 m->bX m u'.size (eW b):=λm e=>e.bT A id;refine⟨λm=>bK v7 m,Ext.refl _ _,og (c:=bN) (y:=b.1) hS rfl (cQ (λh=>hJ1 _ _ ⟨e7,A,?_⟩) λh=>?_)⟩
   ·rw[zM];rfl;rintro⟨h1,_⟩;exact absurd h O
   ·refine og (c:=bN) (y:=b.1) hS rfl (il (c:=bN) (y:=b.1) hS rfl (il (c:=bN) (y:=b.2.1) hS rfl (il (c:=bN) (y:=b.2.2.1) hS rfl (il (c:=bN) (y:=b.2.2.2.1) hS rfl (il (c:=bN) (y:=b.2.2.2.2) hS rfl (hof b v7 _ bi λu3 e3=>⟨e3,ar O O (hJ1 _ _ ⟨e7.trans e3,e3.bT A id,?_⟩)⟩))))));rw[l3,mC,decide_eq_true_iff,decide_eq_false_iff_not];unfold lf;omega
theorem Nr (b:B5)(u:Hp)(K:aN)(bi:gW b)(hK:∀u',bK u u'->K (Zq b.2.1) u'):VP Tryz.prog ⟨44,#[],#[]⟩ [.agg #[.int .i64 b.1,.int .i64 b.2.1,.int .i64 b.2.2.1,.int .i64 b.2.2.2.1,.int .i64 b.2.2.2.2]] [.one bN] u K:=by
 have:=bi.s;refine pd (all := #[.agg #[.int .i64 b.1,.int .i64 b.2.1,.int .i64 b.2.2.1,.int .i64 b.2.2.2.1,.int .i64 b.2.2.2.2]]) (by kernel_rfl) aA ?_;exact U7 b O O hK
theorem I2 (b:B5)(u:Hp)(K:aN)(bi:gW b)(hK:∀u',bK u u'->K b.2.1 u'):VP Tryz.prog ⟨57,#[],#[]⟩ [.agg #[.int .i64 b.1,.int .i64 b.2.1,.int .i64 b.2.2.1,.int .i64 b.2.2.2.1,.int .i64 b.2.2.2.2]] [.one bN] u K:=by
 refine pd (all := #[.agg #[.int .i64 b.1,.int .i64 b.2.1,.int .i64 b.2.2.1,.int .i64 b.2.2.2.1,.int .i64 b.2.2.2.2]]) (by kernel_rfl) aA ?_;refine Yx.o ?_;unfold Yx.v;exact nw (cs:=eW b) λv d e a=>a.eY rfl (hK v e)
def tK (addr:Int)(b:B5):Prop:=lf (λb=>Zq b.2.1) addr b
def si (addr:Int)(b:B5):Prop:=lf (λb=>b.2.1) addr b
def tf (H:Hw)(x:Gu)(addr e:Int):Prop:=(e=7/\((∀k∈x.kn,¬tK addr k.2)\/addr%8≠0))\/(∃k∈x.kn,tK addr k.2/\addr%8=0/\e=if Ux H k.2 then 5 else 0)
set_option maxRecDepth 16000 in
theorem Dp (p:GP σ0 U L H held s0 P gb km fm x)(xi:∀e∈x.kn,e.1=e.2.1/\gW e.2)(addr:Int){R:aN}(hR:∀e w,bK U w->tf H x addr e->R e w):XX.c (aW gb) addr U R:=by
 refine XX.o ?_;unfold XX.v;have M:∀b,gW b->0<=Zq b.2.1/\Zq b.2.1<=100000:=λb A=>by have:=A.s;have:=Z1 (n:=b.2.1) O;omega
 have box:∀{w:Hp} {B S Q E D:Int} {K:Addr->Hp->Prop},(∀g,bK w g->bX g w.size (eW (B,S,Q,E,D))->K ⟨w.size,0,none⟩ g) →
  Nw (.cells #[.int .i64 0,.int .i64 0,.int .i64 0,.int .i64 0,.int .i64 0] 95 (0,0)) w λm X=>dN (m.add 0) (.int .i64 B) X λv3=>dN (m.add 1) (.int .i64 S) v3 λZ=>dN (m.add 2) (.int .i64 Q) Z λv5=>dN (m.add 3) (.int .i64 E) v5 λV=>dN (m.add 4) (.int .i64 D) V λv7=>K m v7:=λ{w B S Q E D K} hK=>
  nw (cs:=eW (0,0,0,0,0)) λX hz2 e2 b2=>b2.s1 (by simp[eW]) λv3 o3 b3=>b3.s1 (by simp[eW]) λZ o4 b4=>b4.s1 (by simp[eW]) λv5 o5 b5=>b5.s1 (by simp[eW]) λV o6 b6=>b6.s1 (by simp[eW]) λv7 o7 d=>
   hK v7 (Ext.fresh e2 ((((o3.ext.trans o4.ext).trans o5.ext).trans o6.ext).trans o7.ext) λi (hi:i=w.size)=>O) d
 refine VO p (cB rfl (FY p xi addr M Nr (λb w C hn=>?_) λk w C F j=>?_))
 ·refine box λg N d=>bV.intro (cD rfl (cD rfl (hR 7 g (C.trans N) (.inl ⟨rfl,.inl hn⟩))))
 ·refine box λg N d=>?_;have A:gW k.2:=(xi _ F).2;have h0:0<=addr:=by have:=j.1;have:=A.z;have:=A.base;omega
  have a:=C.trans N;refine KF (λr u=>u=g/\r=decide (addr%8≠0)) (λr u ⟨hu,Y⟩=>?_) λJ hJ=>cB rfl (nz aB (hJ _ _ ⟨rfl,?_⟩))
  ·rw[hu];by_cases h8:addr%8≠0
   ·exact cD (by rw[Y];exact zJ h8) (hR 7 g a (.inl ⟨rfl,.inr h8⟩))
   ·refine cB (by rw[Y];exact zM h8) (d.rI rfl (d.rI rfl (d.rI rfl (d.rI rfl (d.rI rfl (UT (p.fr a) k.2 λw9 W=>?_))))));have y:addr%8=0:=by omega
    refine cO (λG=>hR 5 w9 (a.trans W) (.inr ⟨k,F,j,y,by rw[G];rfl⟩)) λG=>hR 0 w9 (a.trans W) (.inr ⟨k,F,j,y,by rw[G];rfl⟩)
  ·rw[Qg h0];by_cases h8:addr%8=0
   ·rw[h8];decide
   ·rw[zJ h8];simpa using h8
theorem Ma (p:GP σ0 U L H held s0 P gb km fm x)(xi:∀e∈x.kn,e.1=e.2.1/\gW e.2)(addr:Int)(ha:addr<=9223372036854775807){R:Int->Int->Hp->Prop}(h0:∀e w,e≠0->bK U w->tf H x addr e->R 0 e w)(h1:∀w,bK U w->tf H x addr 0->R (QW H.sp addr) (eT H.sp addr) w):YC.c (aW gb) addr U R:=by
 refine YC.o ?_;unfold YC.v;refine Dp p xi addr λe w d i=>cO (λg=>h0 e w (by simpa using g) d i) λa=>?_;have m:e=0:=by simpa using a
 subst m;have j:=p.fr d;exact aG (j.b.rP rfl (CI j.h addr ha λr e2=>h1 r (d.trans e2) i))
theorem G7 (p:GP σ0 U L H held s0 P gb km fm x)(gc:Gc σ0)(xi:∀e∈x.kn,e.1=e.2.1/\gW e.2)(addr u:Int)(ha:addr<=9223372036854775807){R:aN}(h0:∀e w,e≠0->bK U w->tf H x addr e->R e w)
 (h1:∀w s0' P',tf H x addr 0->Ext P U w->GP σ0 w L {H with sp:=ZV H.sp addr u} held s0' P' gb km fm x->(∀c,P' c->P c\/U.size<=c)->R (eT H.sp addr) w):Xh.c (aW gb) addr u U R:=by
 refine Xh.o ?_;unfold Xh.v;refine Dp p xi addr λe w a j=>cO (λi=>h0 e w (by simpa using i) a j) λd=>?_;have y:e=0:=by simpa using d
 subst y;have m:=p.fr a;have A:=a.1;exact aG (m.b.rP rfl (m.write gc addr u ha λz s2 P2 e2 r g=>h1 z s2 P2 j ((bK.to a).trans e2) r λc s=>(g c s).imp id λh=>O))
set_option maxRecDepth 16000 in
theorem BF (p:GP σ0 U L H held s0 P gb km fm x)(xi:∀e∈x.kn,e.1=e.2.1/\gW e.2)(addr:Int){R:Int->Int->Int->Int->Int->Hp->Prop}(h0:∀w,bK U w->(∀k∈x.kn,¬si addr k.2)->R 0 0 0 0 8 w)(h1:∀k w,bK U w->k∈x.kn->si addr k.2->R k.2.1 k.2.2.1 k.2.2.2.1 k.2.2.2.2.1 0 w):WE.c (aW gb) addr U R:=by
 refine WE.o ?_;unfold WE.v;have S:∀b,gW b->0<=b.2.1/\b.2.1<=100000:=λb bi=>by have:=bi.s;omega
 refine nw (cs:=[.int .i64 0,.int .i64 0,.int .i64 0,.int .i64 0]) λv hz e b4=>?_;have j:∀{w:Hp} {a b c d:Int} {K:Int->Int->Int->Int->Hp->Prop},bK U w->bX w U.size [.int .i64 0,.int .i64 0,.int .i64 0,.int .i64 0]->(∀g,bK U g->K a b c d g) →
  dN (Addr.add ⟨U.size,0,none⟩ 0) (.int .i64 a) w λv7=>dN (Addr.add ⟨U.size,0,none⟩ 1) (.int .i64 b) v7 λv8=>dN (Addr.add ⟨U.size,0,none⟩ 2) (.int .i64 c) v8 λv9=>dN (Addr.add ⟨U.size,0,none⟩ 3) (.int .i64 d) v9 λv10=>
  gp .i64 (Addr.add ⟨U.size,0,none⟩ 0) v10 λr0=>gp .i64 (Addr.add ⟨U.size,0,none⟩ 1) v10 λr1=>gp .i64 (Addr.add ⟨U.size,0,none⟩ 2) v10 λr2=>gp .i64 (Addr.add ⟨U.size,0,none⟩ 3) v10 λr3=>K r0 r1 r2 r3 v10:=λm D J=>
  D.s1 aA λv1 o1 b1=>b1.s1 aA λC o2 F=>F.s1 aA λv3 o3 E=>E.s1 aA λA o4 b4=>b4.rI rfl (b4.rI rfl (b4.rI rfl (b4.rI rfl (J A ((((m.only o1 (.inr (zD _))).only o2 (.inr (zD _))).only o3 (.inr (zD _))).only o4 (.inr (zD _)))))))
 have box:∀{w:Hp} {B W V M G:Int} {K:Addr->Hp->Prop},(∀y,bK w y->bX y w.size (eW (B,W,V,M,G))->K ⟨w.size,0,none⟩ y) →
  Nw (.cells #[.int .i64 0,.int .i64 0,.int .i64 0,.int .i64 0,.int .i64 0] 95 (0,0)) w λu C=>dN (u.add 0) (.int .i64 B) C λv3=>dN (u.add 1) (.int .i64 W) v3 λA=>dN (u.add 2) (.int .i64 V) A λZ=>dN (u.add 3) (.int .i64 M) Z λX=>dN (u.add 4) (.int .i64 G) X λv7=>K u v7:=λ{w B W V M G K} J=>
  nw (cs:=eW (0,0,0,0,0)) λC hz2 e2 F=>F.s1 (by simp[eW]) λv3 o3 E=>E.s1 (by simp[eW]) λA o4 b4=>b4.s1 (by simp[eW]) λZ o5 b5=>b5.s1 (by simp[eW]) λX o6 b6=>b6.s1 (by simp[eW]) λv7 o7 r=>
   J v7 (Ext.fresh e2 ((((o3.ext.trans o4.ext).trans o5.ext).trans o6.ext).trans o7.ext) λi (hi:i=w.size)=>O) r
 have Y:=p.fr e;refine VO Y (cB rfl (FY Y xi addr S I2 (λb w m hn=>?_) λk w m hk N=>?_))
 ·refine box λy z r=>cD rfl (j (K:=λa b c d g=>R a b c d 8 g) ((e.trans m).trans z) ((m.trans z).bT b4 id) λg Q=>h0 g Q hn)
 ·refine box λy z r=>cB rfl (r.eY rfl (r.eY rfl (r.eY rfl (r.eY rfl ?_))));exact j (K:=λa b c d g=>R a b c d 0 g) ((e.trans m).trans z) ((m.trans z).bT b4 id) λg Q=>h1 k g Q hk N
end Go.Ar
namespace Go.Ar
open Go Go.Vc Go.Proofs
open Go.Vc (bW dB cS)
variable {size align:Int}{U σ0 v w w':Hp}{F P Q X T:Rg}{L:dK}{H H' H1:Hw}{held:List Pc}{s0 sp:Sp}{t n:Nat}{g:Th}{gb km fm m:Nat}{x y:Gu}{b:B5}
theorem iC.yp {n m:Nat}{H H1 H2:Hw}{t:Nat}{p:Ph}{a1 e1 a2 e2:Int}(h:iC n H t p H1 a1 e1)(h':iC m H t p H2 a2 e2):H1=H2/\a1=a2/\e1=e2:=by
 induction h generalizing m with
 | done h1 h2=>
  cases h' with
  | done=>exact⟨rfl,rfl,rfl⟩
  | next _ h3 _=>rw[h2]at h3;cases h3
 | next h1 h2 _ ih=>
  cases h' with
  | done _ h3=>rw[h2]at h3;cases h3
  | next _ h3 h4=>rw[h2]at h3;cases h3;exact ih h4
theorem Uf.yp {thread kind size align addr a1 e1 a2 e2:Int}{H1 H2:Hw}(h:Uf H thread kind size align addr H1 a1 e1)(h':Uf H thread kind size align addr H2 a2 e2):H1=H2/\a1=a2/\e1=e2:=by
 rcases h with⟨h1,_,rfl,rfl⟩|⟨t,p,n,h1,h2⟩
 ·rcases h' with⟨g1,_,rfl,rfl⟩|⟨_,_,_,g1,_⟩
  ·rw[h1]at g1;cases g1;exact⟨rfl,rfl,rfl⟩
  ·rw[h1]at g1;cases g1
 ·rcases h' with⟨g1,_⟩|⟨_,_,_,g1,g2⟩
  ·rw[h1]at g1;cases g1
  ·rw[h1]at g1;cases g1;exact h2.yp g2
theorem RT:tj w0 64:=by
 have h:=DM (xs:=pT 8) (p:=64) (a:=1) (t:=1) (b:=1024) (r:=2) (Hl 8 aB aB) aB;rw[wL]at h;exact h
theorem Gz {a:Option Addr}{thread addr:Int}{R:aN}(h:X3.c a thread addr true U R):Xj.c a thread addr U R:=Xj.o (by unfold Xj.v;exact h)
theorem Bj (H:Hw)(thread:Int):Ub H thread=if 0<=thread/\thread<(H.bQ.length:Int)then fG H thread.toNat else none:=by
 unfold Ub fG;split
 ·cases H.bQ[thread.toNat]?<;>rfl
 ·rfl
theorem OG (o:fX H H')(thread:Int):Kc H' thread=Kc H thread:=by
 unfold Kc;rw[Bj,Bj,o.kp.2.1,o.kp.2.2.1,o.ph]
theorem IT {a b:Sl}{xs ys:List Int}{G:Rg}(ha:cU a 1 (Wo xs) U F)(hb:cU b 1 (Wo ys) U G)(hl:xs.length<=1000000000){R:aO}(hR:R (decide (xs=ys)) U):XI.c a b U R:=by
 refine XI.o ?_;unfold XI.v;have B:a.len=xs.length:=by have:=ha.1;simp[Wo]at this;omega
 have A:b.len=ys.length:=by have:=hb.1;simp[Wo]at this;omega
 rw[B,A,qn];refine cO (λr=>?_) λr=>?_
 ·have d:xs.length≠ys.length:=by simpa using r
  rw[zM λe=>d (by rw[e])]at hR;exact hR
 have K:xs.length=ys.length:=by simpa using r
 refine Z6 (a:=bN) (λ(t:Int) v=>∃i:Nat,t=(i:Int)/\i<=xs.length/\v=U/\xs.take i=ys.take i) (λt _=>xs.length-t.toNat) ⟨0,rfl,O,rfl,rfl⟩ ?_;rintro t v ⟨i,rfl,J,rfl,j⟩;refine cQ (λE=>?_) λH=>?_
 ·have s:i<xs.length:=by omega
  have g:xs[i]?=some xs[i]:=cV s;have p:ys[i]?=some (ys[i]' O):=cV _;generalize xs[i]=x at g;generalize ys[i]' O=y at p;rw[←B,←A];refine ha.nc g (hb.nc p (cO (λd=>?_) λw=>?_))
  ·have D:x≠y:=by simpa using d
   rw[zM]at hR
   ·exact hR
   ·intro e;rw[e,p]at g;exact D (Option.some.inj g).symm
  ·have u:x=y:=by simpa using w
   refine cP (m:=i+1) O O ⟨⟨i+1,rfl,O,rfl,?_⟩,O⟩;rw[k6,k6,j,g,p,u]
 ·have C:i=xs.length:=by omega
  have:xs=ys:=by
   have z:=j;rw[mG O,mG O]at z;exact z
  rw[zJ this]at hR;exact hR
def gm:Hw×Int×Int:=(yo w0 0 0 56 16 0).getD (w0,0,99)
theorem BA:gm.2=(4096,0):=by decide +kernel
theorem uY:Uf w0 0 0 56 16 0 gm.1 4096 0:=by
 have a:=BA;unfold gm at *;cases hw:yo w0 0 0 56 16 0 with
 | none=>rw[hw]at a;exact absurd (congrArg Prod.snd a) aB
 | some r=>
  rw[hw]at a;have:=Nx hw;have e1:r.2=(4096,0):=a;rw[e1]at this;exact this
def gB:B5:=(4112,24,4096,64,1)
theorem yV:Kg gm.1 4096=some 64:=by decide +kernel
def gX:Gu:=nI.fQ gB
def qO:Hw:={gm.1 with sp:=l0 gm.1.sp gB}
def oV:Hw:={qO with sp:=ZV qO.sp 4136 5}
def qB:Hw:={oV with sp:=ZV oV.sp 4136 (-4137)}
def uB:Hw:={qB with sp:=ZV qB.sp 4128 7}
theorem Nd:eT qO.sp 4136=0:=by decide +kernel
theorem uS:Aa oV gX 4112=0/\Be oV gX 4112=[4136]/\mF oV gX 0 4112 true=10/\eT oV.sp 4136=0:=by decide +kernel
theorem AD:eT qB.sp 4128=0/\Ux qB gB=false:=by decide +kernel
theorem C3:mF uB gX 0 4112 true=0/\Kc (iz uB gB) 0=0:=by decide +kernel
theorem Bp:gX.kn=[(4112,gB)]:=rfl
theorem oP:∀e∈gX.kn,e.1=e.2.1/\gW e.2:=λe a=>by
 rw[Bp,zN]at a;subst a;exact⟨rfl,⟨by decide,by decide⟩,⟨by decide,by decide⟩,⟨by decide,by decide,by decide⟩,⟨by decide,by decide⟩,by decide⟩
theorem IA:mF H (gX.gone 4112) 0 4112 true=if Kc H 0≠0 then Kc H 0 else 9:=by
 unfold mF;split
 ·rfl
 ·rfl
attribute [local irreducible] w0 gm qO oV qB uB
theorem Lp:qO = {gm.1 with sp:=l0 gm.1.sp gB}:=by unfold qO;rfl
theorem Lm:oV = {qO with sp:=ZV qO.sp 4136 5}:=by unfold oV;rfl
theorem On:qB = {oV with sp:=ZV oV.sp 4136 (-4137)}:=by unfold qB;rfl
theorem DW:uB = {qB with sp:=ZV qB.sp 4128 7}:=by unfold uB;rfl
set_option maxRecDepth 8000 in
theorem Ib (gl:Gl U)(gc:Gc U){R:aO}(hR:∀σ',bK U σ'->R true σ'):WW.c U R:=by
 refine WW.o ?_;unfold WW.v;refine Ov gl gc.gd λv L N e hsN hNv h0=>cB rfl ?_;have J:=RT;have hc0:w0.cf.aF=64:=by have:=J.pg;omega
 refine Dl e h0.cut J.hi J.cf O (λb C=>⟨by have:N<=b:=C.1;omega,C.2⟩) (Av gl gc.gd) λw gb km fm e1 _ p=>?_;refine bV.intro (cB rfl (cB rfl ?_));refine EU p gc ⟨by decide,by decide⟩ 0 24 8 (λw D=>absurd D aB) (λe w ts H' g r P' _ d i=>?_) λb w2 ts H1 y s1 P1 B i o e2 F hP2=>?_
 ·have:=i.yp uY;exact absurd this.2.2 d
 obtain⟨rfl,x,_⟩:=i.yp uY;have C:b=gB:=by
  have hu:=B.u;rw[x,yV]at hu;have h1:=B.a;rw[x]at h1;have h2:b.2.2.2.1=64:=(Option.some.inj hu).symm;exact Prod.ext (h1.trans aB) (Prod.ext B.s (Prod.ext x (Prod.ext h2 B.n)))
 subst C;have F:GP U w2 {L with ts:=ts} qO y s1 P1 gb km fm gX:=by rw[Lp];exact F
 refine bV.intro (cB aB (bV.intro (cB aB ?_)));refine F.write gc 4136 5 aB λw3 s3 P3 e3 K _=>?_;rw[Nd];rw[←Lm]at K;refine cB aB ?_;refine EO K oP 4112 λsl w4 Q e4 hs hQ=>?_;rw[uS.1];rw[uS.2.1]at hs;have p4:=K.fr e4;refine bV.intro (cB aB (nw (cs:=[.int .i64 4136]) λw5 hz5 e5 b5=>?_));have p5:=p4.fr e5;have G:=aI.bO hs e5;have S:cU ⟨some ⟨w4.size,0,none⟩,1,1⟩ 1 (Wo [4136]) w5 (· = w4.size):=b5.gY rfl rfl λj hj=>by rw[zH];rfl
 refine IT (bR.gY G) S aA ?_;refine bV.intro ?_;refine cB (show(!decide (([4136]:List Int)=[4136]))=false by decide) ?_;refine Gz ?_;refine Ge p5 gc oP 0 4112 true (λw6 d e6=>?_) λb w6 ts H1 g r P' e _ h=>by rw[uS.2.2.1]at h;exact absurd h aB
 rw[uS.2.2.1];have p6:=p5.fr e6;refine bV.intro (cB aB ?_);refine p6.write gc 4136 (-4137) aB λw7 s7 P7 e7 p7 _=>?_;rw[uS.2.2.2];rw[←On]at p7;refine cB aB ?_;have Y:tK 4128 gB:=⟨by decide,by decide⟩;have m:¬tK 4136 gB:=λh=>absurd h.2 aB;have wd:∀{H:Hw} {a e:Int},Ux H gB=false->tf H gX a e->(tK a gB/\a%8=0->e=0)/\(¬tK a gB->e=7):=λhl i=>by
  rcases i with⟨rfl,h⟩|⟨k,D,hi,h8,rfl⟩
  ·refine⟨λh'=>?_,λ_=>rfl⟩;rcases h with h|h
   ·exact absurd h'.1 (h (4112,gB) (by rw[Bp];exact zN.2 rfl))
   ·exact absurd h'.2 h
  ·rw[Bp,zN]at D;subst D;simp only[hl];exact⟨λ_=>rfl,λh=>absurd hi h⟩
 refine G7 p7 gc oP 4128 7 aB (λe w d _ i=>absurd ((wd AD.2 i).1 ⟨Y,by decide⟩) d) λw8 s8 P8 _ e8 X _=>?_;rw[AD.1];rw[←DW]at X;have A:Ux uB gB=false:=by rw[DW];exact AD.2
 refine G7 X gc oP 4136 7 aB (λe w9 d e9 i=>?_) λw s P i=>absurd ((wd A i).2 m) aB;have E:=(wd A i).2 m;subst E;have p9:=X.fr e9;refine bV.intro (cD rfl (bV.intro (cD rfl ?_)));refine Gz ?_;refine Ge p9 gc oP 0 4112 true (λw d=>absurd C3.1 d) λb w10 ts H1 g r P' e Z _ i o fe e10 z hP10=>?_;have W:b=gB:=by
  have:bW gX.kn 4112=some gB:=rfl;rw[this]at Z;exact(Option.some.inj Z).symm
 subst W;refine bV.intro (cD rfl ?_);have xi:∀e∈(gX.gone 4112).kn,e.1=e.2.1/\gW e.2:=λe E=>by
  rw[show(gX.gone 4112).kn=[]from rfl]at E;simp at E
 have h9:mF H1 (gX.gone 4112) 0 4112 true=9:=by
  rw[IA,OG o,C3.2];rfl
 refine Gz ?_;refine Ge z gc xi 0 4112 true (λM d V=>?_) λb w ts H1 g r P' e Z h=>by rw[h9]at h;exact absurd h aB
 rw[h9];exact hR M (z.fr V).e
end Go.Ar
namespace Go.Ar
open Go.Vc (bW dB cS)
variable {size align thread addr:Int}{H H' H1:Hw}{held held1:List Pc}{s0 s1 sp:Sp}{x y:Gu}{b:B5}
theorem Fl {α:Type}{l:List (Int×α)}{n:Int}(h:bW l n=none)(v:α):dB l n v=l++[(n,v)]:=by
 unfold dB;rw[zB];intro hx;obtain⟨y,a,e⟩:=ko.1 hx;unfold bW at h;rw[qR,nS]at h;exact h y a e
theorem Au {α:Type}{l:List (Int×α)}{n:Int}:bW l n=none↔∀e∈l,e.1≠n:=by
 unfold bW;rw[qR,nS];simp only[zT]
theorem V4 {α β:Type}{f:α->β}:∀{l:List α},(l.map f).Nodup->∀{a b:α},a∈l->b∈l->f a=f b->a=b
 | [],_,_,_,h,_,_=>by simp at h
 | z::l,hn,a,b,ha,hb,e=>by
  simp only[zS,zr]at hn;rcases zW.1 ha with h1|h1
  ·rcases zW.1 hb with h2|h2
   ·rw[h1,h2]
   ·exact absurd (zE.2 ⟨b,h2,by rw[←e,h1]⟩) hn.1
  ·rcases zW.1 hb with h2|h2
   ·exact absurd (zE.2 ⟨a,h1,by rw[e,h2]⟩) hn.1
   ·exact V4 hn.2 h1 h2 e
theorem yW (h:HI H held s0){e:Int×Bk}(he:e∈H.live){w:Nat}(h1:e.1<=((8*w:Nat):Int))(h2:((8*w:Nat):Int)<e.1+e.2.2.1):gf H.sp.st (w/32)≠0:=by
 obtain⟨_,p,a,_,_,d,b,_⟩:=h.lv e he;have:=h.mapped a (x:=8*w) O O
 rwa [show 8*w/256=w/32 by omega]at this
structure eR (H:Hw) (x:Gu):Prop where
 live:H.live.map (λe=>(e.1,e.2.2.1))=x.kn.map (λe=>(e.2.2.2.1,e.2.2.2.2.1))
 can:∀e∈x.kn,∀z∈Za e.2,QW H.sp z=jB z
 ph:∀j,fG H j=none
 i:∀e∈x.kn,e.1=e.2.1/\gW e.2
 nd:(x.kn.map (·.1)).Nodup
theorem F8 (hi:HI H held s0){e e':Int×Bk}(he:e∈H.live)(he':e'∈H.live){z:Int}(h1:e.1<=z)(h2:z<e.1+e.2.2.1)(h3:e'.1<=z)(h4:z<e'.1+e'.2.2.1):e=e':=by
 obtain⟨_,p,g,_,_,b,j,_⟩:=hi.lv e he;obtain⟨_,q,a,_,_,d,i,_⟩:=hi.lv e' he';have:p=q:=hi.apart g a (x:=z.toNat) O O O O;subst this;exact V4 hi.lk he he' (by rw[←b,←d])
theorem eR.of (g:eR H x){e:Int×B5}(he:e∈x.kn):∃l∈H.live,l.1=e.2.2.2.1/\l.2.2.1=e.2.2.2.2.1:=by
 have:(e.2.2.2.1,e.2.2.2.2.1)∈H.live.map (λe=>(e.1,e.2.2.1)):=by rw[g.live];exact zE.2 ⟨e,he,rfl⟩
 obtain⟨l,a,h⟩:=zE.1 this;simp only[Prod.mk.injEq]at h;exact⟨l,a,h.1,h.2⟩
theorem eR.ri (g:eR H x)(hi:HI H held s0):(x.kn.map λe=>e.2.2.2.1).Nodup:=by
 have a:=congrArg (List.map Prod.fst) g.live;rw[lb,lb]at a;have b:(x.kn.map λe=>e.2.2.2.1)=H.live.map (·.1):=a.symm;rw[b];exact hi.lk
theorem eR.apart (g:eR H x)(hi:HI H held s0){e e':Int×B5}(he:e∈x.kn)(he':e'∈x.kn){z:Int}(h1:e.2.2.2.1<=z)(h2:z<e.2.2.2.1+e.2.2.2.2.1)(h3:e'.2.2.2.1<=z)(h4:z<e'.2.2.2.1+e'.2.2.2.2.1):e=e':=by
 obtain⟨l,b,d,p⟩:=g.of he;obtain⟨j,a,i,m⟩:=g.of he';have:=F8 hi b a (z:=z) O O O O;subst this;exact V4 (g.ri hi) he he' (by rw[←d,←i])
theorem eR.usable (g:eR H x)(hi:HI H held s0){e:Int×B5}(he:e∈x.kn):Kg H e.2.2.2.1=some e.2.2.2.2.1:=by
 obtain⟨l,d,a,b⟩:=g.of he;unfold Kg;rw[←a,QA hi.lk (show(l.1,l.2)∈H.live from d)];exact congrArg some b
theorem eR.lost (g:eR H x)(hi:HI H held s0){e:Int×B5}(he:e∈x.kn):Ux H e.2=false:=by
 unfold Ux;rw[g.usable hi he];simp
theorem eR.map (g:eR H x)(hi:HI H held s0){e:Int×B5}(he:e∈x.kn){w:Nat}(h1:e.2.2.2.1<=((8*w:Nat):Int))(h2:((8*w:Nat):Int)<e.2.2.2.1+e.2.2.2.2.1):gf H.sp.st (w/32)≠0:=by
 obtain⟨l,a,b,d⟩:=g.of he;exact yW hi a O O
theorem gW.word (bi:gW b){z:Int}(h:z∈Za b\/z∈Qw b):(∃w:Nat,z=((8*w:Nat):Int))/\b.2.2.1<=z/\z<b.2.2.1+b.2.2.2.1:=by
 have a:=bi.base;have d:=bi.z;have e:=bi.t;rcases h with h|h
 ·have:=UW bi h;exact⟨⟨z.toNat/8,O⟩,O,O⟩
 ·have:=B6 bi h;exact⟨⟨z.toNat/8,O⟩,O,O⟩
theorem gW.nw (bi:gW b){z:Int}(h:z∈Za b):z∉Qw b:=λa=>by
 have d:=UW bi h;have e:=B6 bi a;omega
theorem eR.acc (g:eR H x)(hi:HI H held s0){e:Int×B5}(he:e∈x.kn){z:Int}(h:z∈Za e.2\/z∈Qw e.2):eT H.sp z=0:=by
 obtain⟨⟨w,rfl⟩,a,b⟩:=(g.i e he).2.word h;exact Uk.2 (g.map hi he a b)
theorem eR.broken (g:eR H x)(hi:HI H held s0){e:Int×B5}(he:e∈x.kn):Ke H.sp e.2=[]:=by
 unfold Ke;rw[List.filter_eq_nil_iff];intro z hz;unfold jJ;rw[g.acc hi he (.inl hz),g.can e he z hz];simp
theorem eR.cG (g:eR H x)(hi:HI H held s0):pw H x=[]:=by
 unfold pw;rw[List.flatMap_eq_nil_iff];intro e he;unfold nW;rw[g.lost hi he,g.broken hi he];rfl
theorem eR.kB (bi:gW b){z:Int}(h1:b.1<=z)(h2:z<b.1+Zq b.2.1)(h8:z%8=0):z∈Qw b:=by
 have:=bi.z;have a:=Z1 (n:=b.2.1) (by have:=bi.s;omega);refine zE.2 ⟨((z-b.1)/8).toNat,zg.2 ?_,O⟩;unfold sj;omega
theorem yZ (hi:HI H held s0)(ks:KS H.sp sp){l:Int×Bk}(hl:l∈H.live){w:Nat}(h1:l.1<=((8*w:Nat):Int))(h2:((8*w:Nat):Int)<l.1+l.2.2.1):QW sp ((8*w:Nat):Int)=QW H.sp ((8*w:Nat):Int)/\gf sp.st (w/32)≠0:=by
 have a:=yW hi hl h1 h2;have:=ks.k _ a;rw[Gs,Gs,zC a,zC this.1,this.2 w rfl];exact⟨rfl,this.1⟩
def Kept (H:Hw)(x:Gu)(H':Hw)(x':Gu)(e:Int×B5):Prop:=e∈x'.kn/\∀z∈Qw e.2,QW H'.sp z=QW H.sp z
theorem Pu (bi:gW b):∀z∈Za b,0<=z/\z%8=0:=λz a=>by
 have:=UW bi a;have:=bi.base;omega
theorem Ig (bi:gW b):∀z∈Qw b,0<=z/\z%8=0:=λz a=>by
 have:=B6 bi a;have:=bi.base;have:=bi.z;omega
theorem eR.fQ (g:eR H x)(hi:HI H held s0)(gr:xS H x size align b H1)(o:fX H H1)(hi1:HI H1 held1 s1) :
 eR {H1 with sp:=l0 H1.sp b} (x.fQ b)/\(x.fQ b).kn=x.kn++[(b.1,b)]/\(∀e∈x.kn,Kept H x {H1 with sp:=l0 H1.sp b} (x.fQ b) e)/\(∀z∈Qw b,QW (l0 H1.sp b) z=0)/\eT (l0 H1.sp b) b.1=0:=by
 have bi:=gr.bi;obtain⟨C,cl,A,_⟩:bW H.live b.2.2.1=none/\∃cl,H1.live=dB H.live b.2.2.1 (b.2.2.1,(GN H.tb (zA align+Zq size+16) (zA align)).1,cl,XO H1.bY b.2.2.1)/\True:=by
  rcases gr.me with⟨h,_⟩|⟨_,E,_,cl,F,_⟩
  ·exact absurd rfl h
  ·exact⟨E,cl,F,trivial⟩
 have U:=gr.u;unfold Kg at U;rw[A,BB]at U;have M:(GN H.tb (zA align+Zq size+16) (zA align)).1=b.2.2.2.1:=Option.some.inj U;rw[M]at A;rw[Fl C]at A;have L:∃l∈H1.live,l.1=b.2.2.1/\l.2.2.1=b.2.2.2.1:=⟨(b.2.2.1,(b.2.2.1,b.2.2.2.1,cl,XO H1.bY b.2.2.1)),by rw[A];simp,rfl,rfl⟩;obtain⟨ln,N,V,ln2⟩:=L;have S:∀l∈H.live,l∈H1.live:=λl K=>by rw[A];exact ky _ K
 have J:∀e∈x.kn,∀z,e.2.2.2.1<=z->z<e.2.2.2.1+e.2.2.2.2.1->b.2.2.1<=z->z<b.2.2.1+b.2.2.2.1->False:=λe d z E F h3 h4=>by
  obtain⟨l,K,a1,a2⟩:=g.of d;have:=F8 hi1 (S l K) N (z:=z) O O O O;subst this;have:=Au.1 C l K;exact this V
 have hb1:=bi.base;have hb2:=bi.z;have hb3:=bi.t;have hww:=Z1 (n:=b.2.1) (by have:=bi.s;omega);have Q:bW x.kn b.1=none:=Au.2 λe d h=>by
  have r:=(g.i e d);have q0:=r.1;have q4:=r.2.s;have hbs:=bi.s;have q1:=r.2.base;have q2:=r.2.z;have q3:=r.2.t;have qw:=Z1 (n:=e.2.2.1) (by have:=r.2.s;omega);exact J e d b.1 O O O O
 have y:(x.fQ b).kn=x.kn++[(b.1,b)]:=Fl Q b;have p:∀z,(z∈Za b\/z∈Qw b)->∃w:Nat,z=((8*w:Nat):Int)/\gf H1.sp.st (w/32)≠0:=λz m=>by
  obtain⟨⟨w,rfl⟩,E,F⟩:=bi.word m;exact⟨w,rfl,yW hi1 N O O⟩
 have G:=Pu bi;have D:=Ig bi;obtain⟨_,Y,_⟩:=xf jB (Za b) H1.sp G;have P:∀w:Nat,((8*w:Nat):Int)∉Za b->((8*w:Nat):Int)∉Qw b->QW (l0 H1.sp b) ((8*w:Nat):Int)=QW H1.sp ((8*w:Nat):Int):=λw E F=>by
  unfold l0;rw[KR D,zB λh=>F h.1,KR G,zB λh=>E h.1]
 have B:∀e∈x.kn,∀z,(z∈Za e.2\/z∈Qw e.2)->QW (l0 H1.sp b) z=QW H.sp z:=λe d z m=>by
  obtain⟨l,K,a1,a2⟩:=g.of d;obtain⟨⟨w,rfl⟩,E,F⟩:=(g.i e d).2.word m;have:=yZ (H:=H) hi o.ks K (w:=w) O O;rw[P w (λm=>by have:=bi.word (.inl m);exact J e d _ E F this.2.1 this.2.2) (λm=>by have:=bi.word (.inr m);exact J e d _ E F this.2.1 this.2.2)];exact this.1
 refine⟨⟨?_,λe d z m=>?_,λj=>(o.ph j).trans (g.ph j),λe d=>?_,?_⟩,y,λe d=>⟨by rw[y];exact ky _ d,λz m=>B e d z (.inr m)⟩,λz m=>?_,?_⟩
 ·show H1.live.map _=_;rw[A,y,j4,j4,g.live];rfl
 ·show QW (l0 H1.sp b) z=jB z;rw[y]at d;rcases zK.1 d with d|d
  ·rw[B e d z (.inl m)];exact g.can e d z m
  ·rw[zN]at d;subst d;obtain⟨w,rfl,R⟩:=p z (.inl m);unfold l0;rw[KR D,zB λh=>bi.nw m h.1,KR G,zC ⟨m,R⟩]
 ·rw[y]at d;rcases zK.1 d with d|d
  ·exact g.i e d
  ·rw[zN]at d;subst d;exact⟨rfl,bi⟩
 ·rw[y,j4,nK];refine⟨g.nd,by simp,λa ha c X=>?_⟩;simp only[zS,qD,zN]at X;subst X;obtain⟨e,d,rfl⟩:=zE.1 ha;exact Au.1 Q e d
 ·obtain⟨w,rfl,R⟩:=p z (.inr m);unfold l0;rw[KR D,zC ⟨m,λh=>R ((Y _).1 h)⟩]
 ·have W:b.1∈Qw b:=eR.kB bi (wQ _) (by have:=bi.s;omega) bi.z.2.2;obtain⟨w,hw,R⟩:=p b.1 (.inr W);obtain⟨_,Z,_⟩:=xf (λ_=>0) (Qw b) (j0 H1.sp (Za b) jB) D;rw[hw];unfold l0;exact Uk.2 λh=>R ((Y _).1 ((Z _).1 h))
theorem eR.same (g:eR H x)(hi:HI H held s0)(o:fX H H')(hl:H'.live=H.live):eR H' x/\∀e∈x.kn,Kept H x H' x e:=by
 have a:∀e∈x.kn,∀z,(z∈Za e.2\/z∈Qw e.2)->QW H'.sp z=QW H.sp z:=λe b z d=>by
  obtain⟨l,hl,p,s⟩:=g.of b;obtain⟨⟨w,rfl⟩,r,m⟩:=(g.i e b).2.word d;exact(yZ (H:=H) hi o.ks hl (w:=w) O O).1
 exact⟨⟨by rw[hl];exact g.live,λe b z d=>by rw[a e b z (.inl d)];exact g.can e b z d,λj=>(o.ph j).trans (g.ph j),g.i,g.nd⟩,λe b=>⟨b,λz d=>a e b z (.inr d)⟩⟩
theorem eR.write (g:eR H x)(hi:HI H held s0){k:Int×B5}(hk:k∈x.kn){z v:Int}(hz:z∈Qw k.2):eR {H with sp:=ZV H.sp z v} x/\(∀e∈x.kn,e≠k->Kept H x {H with sp:=ZV H.sp z v} x e)/\(∀u∈Qw k.2,QW (ZV H.sp z v) u=if u=z then v else QW H.sp u):=by
 obtain⟨⟨b,rfl⟩,C,B⟩:=(g.i k hk).2.word (.inr hz);have p:=g.map hi hk C B;have m:∀w:Nat,QW (ZV H.sp ((8*b:Nat):Int) v) ((8*w:Nat):Int)=if w=b/\gf H.sp.st (w/32)≠0 then v else QW H.sp ((8*w:Nat):Int):=λw=>by
  have:=KR (f:=λ_=>v) (l:=[((8*b:Nat):Int)]) (sp:=H.sp) (λz hz=>by rw[zN]at hz;subst hz;omega) w;have e:j0 H.sp [((8*b:Nat):Int)] (λ_=>v)=ZV H.sp ((8*b:Nat):Int) v:=rfl;rw[e]at this;rw[this];by_cases hw:w=b
  ·subst hw;by_cases hm:gf H.sp.st (w/32)≠0
   ·rw[zC ⟨zN.2 rfl,hm⟩,zC ⟨rfl,hm⟩]
   ·rw[zB λh=>hm h.2,zB λh=>hm h.2]
  ·rw[zB λh=>hw (by have:=zN.1 h.1;omega),zB λh=>hw h.1]
 have j:∀e∈x.kn,∀u,(u∈Za e.2\/u∈Qw e.2)->(e=k->u∈Za e.2)->QW (ZV H.sp ((8*b:Nat):Int) v) u=QW H.sp u:=λe d u a r=>by
  obtain⟨⟨w,rfl⟩,A,y⟩:=(g.i e d).2.word a;rw[m,zB];rintro⟨rfl,_⟩;have:=g.apart hi d hk A y C B;subst this;exact(g.i e d).2.nw (r rfl) hz
 refine⟨⟨g.live,λe d u a=>?_,g.ph,g.i,g.nd⟩,λe d s=>⟨d,λu a=>j e d u (.inr a) λh=>absurd h s⟩,λu a=>?_⟩
 ·show QW (ZV H.sp ((8*b:Nat):Int) v) u=jB u;rw[j e d u (.inl a) λ_=>a];exact g.can e d u a
 ·obtain⟨⟨w,rfl⟩,A,y⟩:=(g.i k hk).2.word (.inr a);rw[m];by_cases hw:w=b
  ·subst hw;rw[zC ⟨rfl,p⟩,zC rfl]
  ·rw[zB λh=>hw h.1,zB λh=>hw O]
theorem eR.free (g:eR H x)(hi:HI H held s0){b:B5}(hk:bW x.kn addr=some b){e:Int}(hw:Uf (iz H b) thread 1 0 0 b.2.2.1 H1 0 e)(o:fX (iz H b) H1)(fe:oQ (iz H b) thread b.2.2.1 H1 e)(hrd:Kc H thread=0)(hcf:H.cf.threads=H.bQ.length) :
 eR H1 (x.gone addr)/\∀k∈x.kn,k.1≠addr->Kept H x H1 (x.gone addr) k:=by
 have a:(addr,b)∈x.kn:=Vj hk;have C:=g.i _ a;have S:addr=b.1:=C.1;have L:gW b:=C.2;obtain⟨l,U,K,P⟩:=g.of a;simp only at K P;have F:(iz H b).live=H.live:=rfl;have E:bW H.live b.2.2.1=some l.2:=by rw[←K];exact QA hi.lk (show(l.1,l.2)∈H.live from U)
 have p:H1.live=cS H.live b.2.2.1:=by
  rcases fe with⟨_,_,h⟩|⟨_,h,_⟩|⟨_,_,_,_,h⟩
  ·exfalso;unfold Kc at hrd;rw[Bj]at hrd;split at hrd
   ·cases hrd
   ·rename_i hth;have r:=g.ph thread.toNat;unfold Kd at h;have D:thread.toNat<H.bQ.length:=by omega
    rw[zC (show 0<=thread/\thread<((iz H b).bQ.length:Int)from⟨O,by show thread<(H.bQ.length:Int);omega⟩)]at h;have M:(iz H b).bQ[thread.toNat]?=some H.bQ[thread.toNat]:=cV D;rw[M]at h;simp only at h;unfold fG at r;rw[cV D]at r;rw[zC (show H.bQ[thread.toNat].ph=none from r)]at h;unfold iH at h;rw[zB aB,zC rfl]at h;cases h
  ·rw[F,E]at h;cases h
  ·exact h
 have J:=Ig L;have s:∃s1,HI (iz H b) held s1:=HI.j0 _ _ hi;obtain⟨s1,s⟩:=s;have d:∀k∈x.kn,k.1≠addr->∀z,(z∈Za k.2\/z∈Qw k.2)->QW H1.sp z=QW H.sp z:=λk hk m z A=>by
  obtain⟨Q,G,W,V⟩:=g.of hk;obtain⟨⟨w,rfl⟩,N,R⟩:=(g.i k hk).2.word A;rw[(yZ s o.ks (l:=Q) G (w:=w) O O).1];show QW (j0 H.sp (Qw b) λ_=>FZ) _=_;rw[KR J,zB];rintro⟨hw,_⟩;have B:=L.word (.inr hw);have:=g.apart hi hk a N R B.2.1 B.2.2;subst this;exact m rfl
 have u:∀k,k∈(x.gone addr).kn↔k∈x.kn/\k.1≠addr:=λk=>by
  show k∈cS x.kn addr↔_;unfold cS;rw[zI];simp
 refine⟨⟨?_,λk hk z A=>?_,λj=>(o.ph j).trans (g.ph j),λk hk=>g.i k ((u k).1 hk).1,?_⟩,λk hk m=>⟨(u k).2 ⟨hk,m⟩,λz A=>d k hk m z (.inr A)⟩⟩
 ·rw[p];show(cS H.live b.2.2.1).map _=(cS x.kn addr).map _;unfold cS;have e1:(H.live.filter λy=>!(y.1==b.2.2.1)).map (λe=>(e.1,e.2.2.1))=(H.live.map λe=>(e.1,e.2.2.1)).filter λq=>!(q.1==b.2.2.1):=by rw[vI];rfl
  rw[e1,g.live,vI]
  congr 1
  apply vW;intro k hk;simp only[Function.comp]
  congr 1
  rw[l3,zT,zT];constructor
  ·intro h;have:=V4 (g.ri hi) hk a h;rw[this]
  ·intro h;have:=V4 g.nd hk a h;rw[this]
 ·have:=(u k).1 hk;rw[d k this.1 this.2 z (.inl A)];exact g.can k this.1 z A
 ·show((cS x.kn addr).map _).Nodup;exact g.nd.sublist (List.filter_sublist.map _)
end Go.Ar
namespace Go.Ar
open Go Go.Vc Go.Proofs
open Go.Vc (bW dB cS)
variable {size align:Int}{U σ0 v w w':Hp}{F P Q X T:Rg}{L:dK}{H H' H1:Hw}{held:List Pc}{s0 sp:Sp}{t n:Nat}{g:Th}{gb km fm m xb:Nat}{x y:Gu}{b:B5}
def wS (gb:Nat)(addrs ls:Sl):List Value:=[.pointer (some ⟨gb,0,none⟩),.slice addrs.a addrs.len addrs.cap,.slice ls.a ls.len ls.cap]
def pX (P:Rg)(gb km fm xb:Nat)(Qa Ql:Rg):Rg:=λb=>Mg P gb km fm b\/b=xb\/Qa b\/Ql b
structure kN (σ0 U:Hp) (xb:Nat) (L:dK) (H:Hw) (held:List Pc) (s0:Sp) (P:Rg) (gb km fm:Nat) (x:Gu) (Qa Ql:Rg) (addrs:Sl) (ad:List Int) (ls:Sl) (la:List T3):Prop where
 p:GP σ0 U L H held s0 P gb km fm x
 b:bX U xb (wS gb addrs ls)
 ra:bR addrs 1 (Wo ad) U Qa
 rl:bR ls 3 (j6 la) U Ql
 vC:σ0.size<=xb/\¬Mg P gb km fm xb/\¬Qa xb/\¬Ql xb
 qa:∀b,Qa b->σ0.size<=b/\b<U.size/\¬Mg P gb km fm b
 ql:∀b,Ql b->σ0.size<=b/\b<U.size/\¬Mg P gb km fm b
 qq:∀b,Qa b->¬Ql b
variable {Qa Ql:Rg}{addrs ls:Sl}{ad:List Int}{la:List T3}
theorem kN.fr (o:kN σ0 U xb L H held s0 P gb km fm x Qa Ql addrs ad ls la)(e:bK U w):kN σ0 w xb L H held s0 P gb km fm x Qa Ql addrs ad ls la:=
 ⟨o.p.fr e,e.bT o.b id,aI.bO o.ra e,aI.bO o.rl e,o.vC,λb a=>by have h:=o.qa b a;have:=e.1;exact⟨h.1,O,h.2.2⟩,λb a=>by have h:=o.ql b a;have:=e.1;exact⟨h.1,O,h.2.2⟩,o.qq⟩
theorem vu {P':Rg}(hg:gb<n/\km<n/\fm<n)(hP:∀b,P' b->P b\/n<=b):∀b,Mg P' gb km fm b->Mg P gb km fm b\/n<=b:=by
 rintro b (h|h)
 ·exact(hP b h).imp .inl id
 ·exact .inl (.inr h)
theorem kN.fB (o:kN σ0 U xb L H held s0 P gb km fm x Qa Ql addrs ad ls la){L':dK}{held':List Pc}{s0':Sp}{P':Rg}(e:Ext (Mg P gb km fm) U w)(p':GP σ0 w L' H' held' s0' P' gb km fm y)(hP:∀b,P' b->P b\/U.size<=b) :
 kN σ0 w xb L' H' held' s0' P' gb km fm y Qa Ql addrs ad ls la:=by
 have C:=e.1;have j:=o.b.lt;obtain⟨A,r,z,u⟩:=o.vC;have i:∀b,b<U.size->¬Mg P gb km fm b->¬Mg P' gb km fm b:=λb D s B=>by
  rcases vu ⟨o.p.b.lt,o.p.m.lt,o.p.f.lt⟩ hP b B with h4|h4
  ·exact s h4
  ·omega
 exact⟨p',e.bT o.b r,aI.bS o.ra e λb _ a d=>(o.qa b a).2.2 d,aI.bS o.rl e λb _ a d=>(o.ql b a).2.2 d,⟨A,i _ j r,z,u⟩,λb g=>by have h:=o.qa b g;exact⟨h.1,O,i b h.2.1 h.2.2⟩,λb g=>by have h:=o.ql b g;exact⟨h.1,O,i b h.2.1 h.2.2⟩,o.qq⟩
theorem Gm {c:Nat}(h:¬Mg P gb km fm c):¬P c/\c≠gb/\c≠km/\c≠fm:=⟨λa=>h (.inl a),λe=>h (.inr (.inl e)),λe=>h (.inr (.inr (.inl e))),λe=>h (.inr (.inr (.inr e)))⟩
theorem ye (p:GP σ0 U L H held s0 P gb km fm x){c:Nat}(h:Mg P gb km fm c):c<U.size:=by
 rcases h with h|rfl|rfl|rfl
 ·exact(p.pP c h).2
 ·exact p.b.lt
 ·exact p.m.lt
 ·exact p.f.lt
theorem kN.cC (o:kN σ0 U xb L H held s0 P gb km fm x Qa Ql addrs ad ls la){s':Sl}{ad':List Int}(e:Ext Qa U w)(hr:bR s' 1 (Wo ad') w λb=>Qa b\/U.size<=b/\b<w.size){K:aP}
 (hK:∀u,Ext (· = xb) w u->kN σ0 u xb L H held s0 P gb km fm x (λb=>Qa b\/U.size<=b/\b<w.size) Ql s' ad' ls la->K u):dN (Addr.add ⟨xb,0,none⟩ 1) (.slice s'.a s'.len s'.cap) w K:=by
 have J:=e.1;have E:=o.b.lt;obtain⟨B,A,s,y⟩:=o.vC;have G:=o.p.out e λb _ d=>by have h:=o.qa b d;have i:=Gm h.2.2;exact⟨i.1,i.2.1,i.2.2.1,i.2.2.2,h.1⟩
 have r:=aI.bS o.rl e λb _ m C=>o.qq b C m;refine(e.bT o.b s).s1 (by simp[wS]) λu z b=>?_;have j:=z.ext;have D:=z.1;have i:=Gm A;refine hK u j ⟨G.out j λb _ (d:b=xb)=>by subst d;exact⟨i.1,i.2.1,i.2.2.1,i.2.2.2,B⟩,b,aI.bS hr j λb _ g (d:b=xb)=>?_,aI.bS r j λb _ g (d:b=xb)=>y (d▸g),⟨B,A,?_,y⟩,λb d=>?_,λb d=>by have h:=o.ql b d;exact⟨h.1,O,h.2.2⟩,λb d m=>?_⟩
 ·subst d;rcases g with g|g
  ·exact s g
  ·omega
 ·rintro(g|g)
  ·exact s g
  ·omega
 ·rcases d with d|d
  ·have h:=o.qa b d;exact⟨h.1,O,h.2.2⟩
  ·have:=o.p.e.1;exact⟨O,O,λF=>by have:=ye o.p F;omega⟩
 ·rcases d with d|d
  ·exact o.qq b d m
  ·have:=(o.ql b m).2.1;omega
theorem kN.gM (o:kN σ0 U xb L H held s0 P gb km fm x Qa Ql addrs ad ls la){s':Sl}{la':List T3}{Ql':Rg}(e:Ext Ql U w)(hr:bR s' 3 (j6 la') w Ql')(hQ:∀b,Ql' b->Ql b\/U.size<=b/\b<w.size){K:aP}
 (hK:∀u,Ext (· = xb) w u->kN σ0 u xb L H held s0 P gb km fm x Qa Ql' addrs ad s' la'->K u):dN (Addr.add ⟨xb,0,none⟩ 2) (.slice s'.a s'.len s'.cap) w K:=by
 have M:=e.1;have F:=o.b.lt;obtain⟨C,B,y,s⟩:=o.vC;have J:=o.p.out e λb _ d=>by have h:=o.ql b d;have g:=Gm h.2.2;exact⟨g.1,g.2.1,g.2.2.1,g.2.2.2,h.1⟩
 have r:=aI.bS o.ra e λb _ D i=>o.qq b D i;refine(e.bT o.b s).s1 (by simp[wS]) λu z b=>?_;have j:=z.ext;have E:=z.1;have g:=Gm B;have A:¬Ql' xb:=λh=>by
  rcases hQ xb h with h|h
  ·exact s h
  ·omega
 refine hK u j ⟨J.out j λb _ (d:b=xb)=>by subst d;exact⟨g.1,g.2.1,g.2.2.1,g.2.2.2,C⟩,b,aI.bS r j λb _ m (d:b=xb)=>y (d▸m),aI.bS hr j λb _ m (d:b=xb)=>A (d▸m),⟨C,B,y,A⟩,λb d=>by have h:=o.qa b d;exact⟨h.1,O,h.2.2⟩,λb d=>?_,λb d i=>?_⟩
 ·rcases hQ b d with d|d
  ·have h:=o.ql b d;exact⟨h.1,O,h.2.2⟩
  ·have:=o.p.e.1;exact⟨O,O,λG=>by have:=ye o.p G;omega⟩
 ·rcases hQ b i with i|i
  ·exact o.qq b d i
  ·have:=(o.qa b d).2.1;omega
theorem FL {s:Sl}{l:List T3}(hs:cU s 3 (j6 l) U F){i:Nat}{r:T3}(hb:l[i]?=some r){K:Addr->Prop}(hK:∀bb o,(∀(j:Nat) v,(v3 r)[j]?=some v->cell U ⟨bb,o+j,none⟩=some v)->K ⟨bb,o,none⟩):Ix s.a s.len (i:Int) 3 K:=by
 have m:=(cW.1 hb).1;have w:s.len=l.length:=by have:=hs.1;rw[VC]at this;omega
 obtain⟨b,o,e,_⟩:=hs.cell (j:=i*3+0) (v:=.int .i64 r.1) ((Hz hb O).trans rfl);rw[e];refine ix O O ?_;rw[add_lit];refine hK b _ λj v g=>?_;have u:j<3:=(cW.1 g).1;obtain⟨x,y,d,p⟩:=hs.cell ((Hz hb u).trans g);rw[e]at d;cases d;rw[show o+(i:Int).toNat*3+j=o+(i*3+j) by omega];exact p
theorem Pq {S:aP}(hr:bR ls 3 (j6 la) U Q)(hl:la.length<=100000)(k:T3)(hS0:∀u,bK U u->S u){e t:Nat}{K:Sl->Hp->Prop}
 (hK:∀s' w,Ext Q U w->bR s' 3 (j6 (la++[k])) w (λb=>Q b\/U.size<=b/\b<w.size)->S w/\K s' w) :
 Nw (.cells #[.int .i64 k.1,.int .i64 k.2.1,.int .i64 k.2.2] t (0,0)) U λn v=>And (S v)<|App ls 3 24 e [.int .i64 0,.int .i64 0,.int .i64 0] ⟨some n,1,1⟩ v λs' w=>And (S w)<|K s' w:=by
 have x:ls.len=la.length:=by have:=hr.1;rw[VC]at this;omega
 refine nw (cs:=v3 k) λv s e1 d=>⟨hS0 v e1,?_⟩;have g:=aI.bO hr e1;refine g.app (ys:=v3 k) rfl (by simp[v3]) ?_ (by simp[v3,dQ]) ?_ ?_ mT λs' h' m i a=>?_
 ·intro j u hu;rw[add_lit,zH,d.cell];exact hu
 ·simp only;omega
 ·simp only;omega
 ·have y:Ext Q U h':=e1.to.trans i;refine hK s' h' y ?_;rw[Am];refine aI.mono (aI.cut a) λb p r=>?_;rcases r.1 with h1|h1
  ·exact .inl h1
  ·exact .inr ⟨O,p⟩
inductive mw (H:Hw) (x:Gu) (d:fP) (a:Int):Hw->Gu->Int->Option Int->Bool->Prop where
 | same (e:Int):(e=0->d.kd≠20/\d.kd≠21/\d.kd≠22)->mw H x d a H x e none false
 | full {H':Hw} {e:Int}:d.kd=20->nq d.a d.b=true->e≠0->Uf H d.th 0 (zA d.b+Zq d.a+16) (zA d.b) 0 H' 0 e->fX H H'->H'.live=H.live->mw H x d a H' x e none false
 | fQ {b:B5} {H1:Hw}:d.kd=20->xS H x d.a d.b b H1->Uf H d.th 0 (zA d.b+Zq d.a+16) (zA d.b) 0 H1 b.2.2.1 0->fX H H1->mw H x d a {H1 with sp:=l0 H1.sp b} (x.fQ b) 0 (some b.1) false
 | rD {b:B5} {H1:Hw} {e:Int}:(d.kd=21\/d.kd=22)->bW x.kn a=some b->mF H x d.th a true=0->Uf (iz H b) d.th 1 0 0 b.2.2.1 H1 0 e->fX (iz H b) H1->oQ (iz H b) d.th b.2.2.1 H1 e->mw H x d a H1 (x.gone a) 0 none true
 | wrote:d.kd=26->tf H x a 0->mw H x d a {H with sp:=ZV H.sp a d.va} x (eT H.sp a) none false
def Cu (d:fP)(add:Option Int)(del:Bool)(a:Int)(la:List T3):List T3:=match add with
 | some b=>la++[(b,d.a,d.b)]
 | none=>if del then la.filter λq=>!(q.1==a)else la
theorem xr {P' Qa' Ql':Rg}(hP:∀b,Mg P' gb km fm b->Mg P gb km fm b\/n<=b)(hA:∀b,Qa' b->Qa b\/n<=b)(hL:∀b,Ql' b->Ql b\/n<=b):∀b,pX P' gb km fm xb Qa' Ql' b->pX P gb km fm xb Qa Ql b\/n<=b:=by
 rintro b (h|h|h|h)
 ·exact(hP b h).imp .inl id
 ·exact .inl (.inr (.inl h))
 ·exact(hA b h).imp (λh=>.inr (.inr (.inl h))) id
 ·exact(hL b h).imp (λh=>.inr (.inr (.inr h))) id
set_option maxRecDepth 16000 in
theorem OT (o:kN σ0 U xb L H held s0 P gb km fm x Qa Ql addrs ad ls la)(gc:Gc σ0)(xi:∀e∈x.kn,e.1=e.2.1/\gW e.2)(x0:0<=x.no/\x.no<=100000)(hsw:(pw H x).length<=1000000)(hal:ad.length<=100000)(hll:la.length<=100000)(d:fP)(di:lT d){R:aN}
 (hR:∀e w L' H' held' s0' P' x' Qa' Ql' addrs' ls' add del,kN σ0 w xb L' H' held' s0' P' gb km fm x' Qa' Ql' addrs' (ad++add.toList) ls' (Cu d add del (rp ad d) la)->L'.p=L.p->mw H x d (rp ad d) H' x' e add del->Qt H' H->Ext (pX P gb km fm xb Qa Ql) U w/\(∀b,pX P' gb km fm xb Qa' Ql' b->pX P gb km fm xb Qa Ql b\/U.size<=b)->R e w) :
 Xf.c (aW xb) d.kd d.th d.a d.b d.of d.pl d.va d.s U R:=by
 refine Xf.o ?_;unfold Xf.v;have tM:∀{u u':Hp},Ext (Mg P gb km fm) u u'->Ext (pX P gb km fm xb Qa Ql) u u':=λe=>e.sub λb g=>.inl g;have tX:∀{u u':Hp},Ext (· = xb) u u'->Ext (pX P gb km fm xb Qa Ql) u u':=λe=>e.sub λb g=>.inr (.inl g);have tA:∀{u u':Hp},Ext Qa u u'->Ext (pX P gb km fm xb Qa Ql) u u':=λe=>e.sub λb g=>.inr (.inr (.inl g));have tL:∀{u u':Hp},Ext Ql u u'->Ext (pX P gb km fm xb Qa Ql) u u':=λe=>e.sub λb g=>.inr (.inr (.inr g));have hxb:=o.b.lt;have h00:=o.p.e.1;have G:gb<U.size/\km<U.size/\fm<U.size:=⟨o.p.b.lt,o.p.m.lt,o.p.f.lt⟩;refine nw (cs:=qu d) λv hz e g=>aG ((o.fr e).b.rS rfl (g.rI rfl (g.rI rfl (g.rI rfl (g.rI rfl (g.rI rfl (g.rI rfl (g.rI rfl (g.rT rfl ?_)))))))));have o1:=o.fr e;refine PF (bR.gY o1.ra) d λv1 e1=>?_;have o2:=o1.fr e1;have D:=e.trans e1;have zv:U.size<=v1.size:=D.1;have C:=e1.bT g id;have hat:=MG (ad:=ad) di;generalize hx:rp ad d=ax at hat hR;have hnM:¬Mg P gb km fm U.size:=λN=>by have:=ye o.p N;omega
 have same:∀e w,(e=0->d.kd≠20/\d.kd≠21/\d.kd≠22)->bK v1 w->R e w:=λe w he z=>by
  have oo:=o.fr (D.trans z);refine hR e w L H held s0 P x Qa Ql addrs ls none false ?_ rfl (.same e he) (Qt.refl _) ⟨bK.to (D.trans z),λ_=>.inl⟩;rw[show ad++(none:Option Int).toList=ad by simp];exact oo
 refine C.rI rfl (cO (λhk=>?_) λhk0=>?_)
 ·have A:d.kd=20:=by simpa using hk
  refine⟨λm=>bK v1 m,Ext.refl _ _,aG (il (c:=.p) (y:=some ⟨gb,0,none⟩) (λm e=>e.bT o2.b id) rfl (il (c:=bN) (y:=d.th) (λm e=>e.bT C id) rfl (il (c:=bN) (y:=d.a) (λm e=>e.bT C id) rfl (il (c:=bN) (y:=d.b) (λm e=>e.bT C id) rfl ?_))))⟩;refine EU o2.p gc x0 d.th d.a d.b (λw hgk z=>?_) (λe w ts H' held' s0' P' hgk B hw op W E Z j=>?_) λb w ts H1 held' s0' P' gr hw op E Z j=>?_
  ·exact cB aB (same 1 w (λh=>by cases h) z)
  ·refine cB (by simpa using B) ?_;have o3:=o2.fB (E.sub λc X=>.inl X) Z j;refine hR e w {L with ts:=ts} H' held' s0' P' x Qa Ql addrs ls none false ?_ rfl (.full A hgk B hw op W) op.kp ⟨(bK.to D).trans (tM (E.sub λc X=>.inl X)),xr (vu G λb h=>(j b h).imp id λh=>zh zv h) (λ_=>.inl) (λ_=>.inl)⟩;rw[show ad++(none:Option Int).toList=ad by simp];exact o3
  ·refine cD rfl ?_;have o3:=o2.fB E Z j;have hb3:=E.bT C hnM;refine aG (o3.b.rS rfl (Cm o3.ra O b.1 λs' u1 e4 hr4=>aG (o3.cC e4 hr4 λu2 e5 o5=>?_)));have Y:bX u2 U.size (qu d):=e5.bT (e4.bT hb3 λhq=>by have:=(o.qa _ hq).2.1;omega) λ(hx:U.size=xb)=>by omega
   refine⟨λm=>bX m xb (wS gb s' ls)/\bX m U.size (qu d),⟨o5.b,Y⟩,aG (il (c:=.s) (y:=ls) (λm N=>N.1) rfl (il (c:=bN) (y:=d.a) (λm N=>N.2) rfl (il (c:=bN) (y:=d.b) (λm N=>N.2) rfl ?_)))⟩;refine Pq o5.rl hll (b.1,d.a,d.b) (λu S=>⟨S.bT o5.b id,S.bT Y id⟩) λs2 u3 e6 hr6=>⟨⟨e6.bT o5.b o5.vC.2.2.2,e6.bT Y λhq=>?_⟩,aG (o5.gM e6 hr6 (λ_ h=>h) λu4 e7 o7=>?_)⟩
   ·have:=(o.ql _ hq).2.1;omega
   have z3:=E.1;have z4:=e4.1;have z5:=e5.1;exact hR 0 u4 _ _ held' s0' P' _ _ _ s' s2 (some b.1) false o7 rfl (.fQ A gr hw op) op.kp ⟨((((((bK.to D).trans (tM E)).trans (tA e4)).trans (tX e5)).trans (tL e6)).trans (tX e7)),xr (vu G λb h=>(j b h).imp id λh=>zh zv h) (λb h=>h.imp id λh=>zh (zh zv z3) h.1) (λb h=>h.imp id λh=>zh (zh (zh (zh zv z3) z4) z5) h.1)⟩
 have k0:d.kd≠20:=by simpa using hk0
 have jn:(d.kd=21\/d.kd=22)\/¬(d.kd=21\/d.kd=22):=Decidable.em _;refine yC (λr u=>u=v1/\r=decide (d.kd=21\/d.kd=22)) (λr u ⟨hu,hr⟩=>?_) λJ hJ=>cO (λh=>hJ _ _ ⟨rfl,?_⟩) λh=>hJ _ _ ⟨rfl,?_⟩
 ·rw[hu];rcases jn with A|A
  ·refine cD (by rw[hr];exact zJ A) (aG (o2.b.rP rfl (C.rI rfl (Gz (Ge o2.p gc xi d.th ax true (λw B z=>?_) λb w ts H1 held' s0' P' e N hf hw op fe E Z j=>?_)))))
   ·exact cB (by simpa using B) (same _ w (λh=>absurd h B) z)
   ·refine cD rfl ?_;have o3:=o2.fB E Z j;have hb3:=E.bT C hnM;have hll3:ls.len=la.length:=by have:=o3.rl.1;rw[VC]at this;omega
    have z3:=E.1;refine UH (a:=.s) (bb:=bN) (λ(l:Sl) (i:Int) u=>∃k:Nat,i=k/\k<=la.length/\Ext (λb=>w.size<=b) w u/\bR l 3 (j6 ((la.take k).filter λq=>!(q.1==ax))) u (λb=>w.size<=b)) (λ_ i _=>la.length-i.toNat) ⟨0,rfl,O,Ext.refl _ _,⟨rfl,.inl ⟨rfl,rfl⟩⟩⟩ ?_;rintro(l:Sl) (i:Int) u ⟨k,rfl,hk,S,W⟩;have eu0:bK w u:=⟨S.1,λb g _=>S.2 b g O⟩;have ou:=o3.fr eu0;have hlk:l.len<=k:=by
     have h1:((la.take k).filter λq:T3=>!(q.1==ax)).length*3=l.len*3:=by have:=W.1;rw[VC]at this;exact this
     have h2:=qW (λq:T3=>!(q.1==ax)) (la.take k);rw[zZ,pz hk]at h2;omega
    refine aG (ou.b.rS rfl (cQ (λhlt=>?_) λhge=>?_))
    ·have hk':k<la.length:=by simp only at hlt;omega
     have hg:la[k]?=some la[k]:=cV _;generalize la[k]=q at hg;have htk:la.take (k+1)=la.take k++[q]:=by rw[k6,hg];rfl
     refine aG (ou.b.rS rfl (FL (bR.gY ou.rl) hg λbb o' K=>gG (K 0 _ rfl) (cO (λB=>?_) λaa=>?_)))
     ·have B:¬q.1=ax:=by simpa using B
      refine aG (ou.b.rS rfl (FL (bR.gY ou.rl) hg λbb o' K=>gG (K 0 _ rfl) (gG (K 1 _ rfl) (gG (K 2 _ rfl) ?_))));have hl1:=W.1;rw[VC]at hl1;refine W.push (F:=λb=>w.size<=b) (vs:=v3 q) (λb g=>by have:=S.1;omega) rfl rfl (by simp[v3,dQ]) O O λs' w' hsl' ew' hr'=>?_;refine cP (m:=k+1) O O ⟨⟨k+1,rfl,O,S.trans ew',?_⟩,O⟩;rw[htk,uq,uG (by simpa using B),List.filter_nil,Am];exact hr'
     ·have aa:q.1=ax:=by simpa using aa
      refine cP (m:=k+1) O O ⟨⟨k+1,rfl,O,S,?_⟩,O⟩;rw[htk,uq,uf (by simp[aa]),List.filter_nil,kP];exact W
    ·have hkk:k=la.length:=by simp only at hge;omega
     subst hkk;rw[mK]at W;refine aG (o3.gM (Ql':=λb=>w.size<=b/\b<u.size) eu0.to (aI.mono (aI.cut W) λb _ g=>g) (λb g=>.inr g) λu2 e7 o7=>?_);refine hR 0 u2 {L with ts:=ts} H1 held' s0' P' _ Qa (λb=>w.size<=b/\b<u.size) addrs l none true ?_ rfl (.rD A N hf hw op fe) op.kp ⟨(((bK.to D).trans (tM E)).trans (bK.to eu0)).trans (tX e7),xr (vu G λb h=>(j b h).imp id λh=>zh zv h) (λ_=>.inl) (λb h=>.inr (zh (zh zv z3) h.1))⟩;rw[show ad++(none:Option Int).toList=ad by simp];exact o7
  ·have h3:d.kd≠20/\d.kd≠21/\d.kd≠22:=⟨k0,λh=>A (.inl h),λh=>A (.inr h)⟩;refine cB (by rw[hr];exact zM A) (cO (λ_=>aG (o2.b.rP rfl (EO o2.p xi ax λs w Q z _ _=>same _ w (λ_=>h3) z))) λ_=>?_);refine cO (λ_=>aG (o2.b.rP rfl (LH o2.p xi hsw λs w z _=>same 0 w (λ_=>h3) z))) λ_=>?_;refine cO (λ_=>aG (o2.b.rP rfl (Ma o2.p xi ax hat.2 (λe w _ z _=>same e w (λ_=>h3) z) λw z _=>same _ w (λ_=>h3) z))) λ_=>?_;refine cO (λh26=>aG (o2.b.rP rfl (C.rI rfl (G7 o2.p gc xi ax d.va hat.2 (λe w _ z _=>same e w (λ_=>h3) z) λw s0' P' wd E Z j=>?_)))) λ_=>?_
   ·have o3:=o2.fB (E.sub λc X=>.inl X) Z j;refine hR _ w L _ held s0' P' x Qa Ql addrs ls none false ?_ rfl (.wrote (by simpa using h26) wd) (Qt.refl _) ⟨(bK.to D).trans (tM (E.sub λc X=>.inl X)),xr (vu G λb h=>(j b h).imp id λh=>zh zv h) (λ_=>.inl) (λ_=>.inl)⟩;rw[show ad++(none:Option Int).toList=ad by simp];exact o3
   refine cO (λ_=>aG (o2.b.rP rfl ?_)) λ_=>same 0 v1 (λ_=>h3) (Ext.refl _ _);have V:∀{e w:_} {a b c f:Int},bK v1 w->Nw (.cells #[.int .i64 0,.int .i64 0,.int .i64 0,.int .i64 0] 52 (0,0)) w λM v20=>dN (M.add 0) (.int .i64 a) v20 λv21=>dN (M.add 1) (.int .i64 b) v21 λv22=>dN (M.add 2) (.int .i64 c) v22 λv23=>dN (M.add 3) (.int .i64 f) v23 λv24=>R e v24:=λ{e w a b c f} z=>
    nw (cs:=[.int .i64 0,.int .i64 0,.int .i64 0,.int .i64 0]) λv20 hz20 e20 b20=>b20.s1 aA λv21 o21 b21=>b21.s1 aA λv22 o22 b22=>b22.s1 aA λv23 o23 b23=>b23.s1 aA λv24 o24 b24=>
     same e v24 (λ_=>h3) (z.trans (Ext.fresh e20 (((o21.ext.trans o22.ext).trans o23.ext).trans o24.ext) λi (hi:i=w.size)=>O))
   exact BF o2.p xi ax (λw z _=>V z) λk w z _ _=>V z
 ·rw[h,zJ (Or.inl (by simpa using h))]
 ·have h21:¬d.kd=21:=by simpa using h
  rw[l3,zT,decide_eq_true_iff];exact⟨.inr,λh=>h.resolve_left h21⟩
end Go.Ar
namespace Go.Ar
open Go Go.Vc Go.Proofs
open Go.Vc (bW dB cS)
open Go.Bu (eU KX UJ)
variable {size align a:Int}{U σ0 v w w':Hp}{F P Q X T:Rg}{L:dK}{H H' H1:Hw}{held held' held1:List Pc}{s0 s0' s1 sp:Sp}{t n:Nat}{gb km fm m xb:Nat}{x x' y:Gu}{b:B5}{ad:List Int}{la:List T3}{d:fP}{add:Option Int}{del:Bool}{e:Int}{l:Sl}{ds:List fP}
theorem Cz {s c al:Int}{i:Int}(h1:256%al=0)(h2:c%al=0):(s*256+i*c)%al=0:=by
 obtain⟨b,e1⟩:=yz h1;obtain⟨a,e2⟩:=yz h2;refine Int.emod_eq_zero_of_dvd ⟨s*b+i*a,?_⟩;rw[e1,e2,Int.mul_add,Int.mul_left_comm s,Int.mul_left_comm i]
theorem Im (hi1:HI H1 held1 s1)(hp:HI H held s0)(ht:H1.tb=H.tb){al base:Int}(h256:256%al=0)(me:qc H size al H1 base 0):base%al=0:=by
 rcases me with⟨h,_⟩|⟨_,hm,_,cl,hl,hcl⟩
 ·exact absurd rfl h
 have x:(base,((base,(GN H.tb size al).1,cl,XO H1.bY base):Bk))∈H1.live:=by rw[hl];exact Vj (BB _)
 obtain⟨_,p,B,_,D,u,_,_⟩:=hi1.lv _ x;obtain⟨A,C,hd⟩:=hi1.wi.hf p B;simp only at D u;rcases hd with⟨q1,_,r,_,q2,_⟩|⟨j,c,q1,q2,_,q3,_⟩
 ·rw[←u,q2];have:((r.1*256:Nat):Int)=(r.1:Int)*256+0*0:=by omega
  rw[this];exact Cz h256 aA
 ·rcases hcl with⟨k,rfl,hk⟩|⟨rfl,_⟩
  ·have z:j=k:=by omega
   subst z;obtain⟨F,b,_,g⟩:=Dt hk;have e:A.tb=H1.tb:=hi1.wi.tb _ A C;rw[e,ht,b]at q2;cases q2;obtain⟨y,G,a,m⟩:=q3;have d:=(hi1.wi.ga _ A C).cE _ _ _ a;have w:y=c:=by
    have:=a.1;rw[e,ht,b]at this;exact(Option.some.inj this).symm
   subst w;obtain⟨_,s,i,_,_,E,_⟩:=(Vu d).1 m;rw[←u,E];have:((at_ y s i:Nat):Int)=(s.st:Int)*256+(i:Int)*(y.size:Int):=by unfold at_;simp
   rw[this];exact Cz h256 g
  ·omega
theorem Mx {al:Int}(h1:1<=al)(h2:al<=256)(hp:eU al=true):256%al=0/\(al<16->16%al=0):=by
 obtain⟨al,rfl⟩:=za (show 0<=al by omega);rw[KX]at hp;have key:∀a:Nat,a<=256->1<=a->(a &&& (a-1)=0)->256%a=0/\(a<16->16%a=0):=by decide +kernel
 have:=key al O O (by have:=UJ (a:=al) O O;rw[hp]at this;simpa using this);exact⟨by rw[show(256:Int)=((256:Nat):Int)from rfl,←Int.natCast_emod,this.1];rfl,λh=>by rw[show(16:Int)=((16:Nat):Int)from rfl,←Int.natCast_emod,this.2 O];rfl⟩
theorem JV {al:Int}(h1:1<=al)(h2:al<=256)(hp:eU al=true):256%zA al=0/\zA al%al=0:=by
 have:=Mx h1 h2 hp;unfold zA;split
 ·exact⟨by decide,this.2 O⟩
 ·exact⟨this.1,by simp⟩
structure AL (H:Hw) (x:Gu) (ad:List Int) (la:List T3):Prop where
 g:eR H x
 n0:0<=x.no
 nl:(x.kn.length:Int)<=x.no/\(ad.length:Int)<=x.no
 lq:la.map (λa=>(a.1,a.2.1,zA a.2.2))=x.kn.map (λe=>(e.1,e.2.2.1,e.1-e.2.2.2.1))
 ok:∀a∈la,nq a.2.1 a.2.2=true/\a.1%a.2.2=0
 dq:∀a∈ad,(bW x.kn a).isSome=true\/bW x.fr a=some true
 th:1<=H.cf.threads
theorem AL.out (al:AL H x ad la)(hi:HI H held s0)(cf:lh H)(o:mw H x d a H' x' e add del):AL H' x' (ad++add.toList) (Cu d add del a la)/\x'.no<=x.no+1/\∀k∈x.kn,¬(k.1<=a/\a<k.1+Zq k.2.2.1)->Kept H x H' x' k:=by
 have g:=al.g;have E:ad++(none:Option Int).toList=ad:=by simp
 cases o with
 | same e V=>rw[E];exact⟨al,O,λk j _=>⟨j,λ_ _=>rfl⟩⟩
 | full j y r F op hl=>
  rw[E];obtain⟨A,B⟩:=g.same hi op hl;exact⟨⟨A,al.n0,al.nl,al.lq,al.ok,al.dq,by rw[op.kp.2.1];exact al.th⟩,O,λk j _=>B k j⟩
 | fQ j gr F op=>
  rename_i b H1;obtain⟨P,s1,D⟩:=op.hi;obtain⟨A,W,Z,_,_⟩:=g.fQ hi gr op D;have w:=gr.ok;unfold nq at w;rw[zF,zU]at w;obtain⟨⟨_,_,X,Y⟩,kp⟩:=w;obtain⟨Q,K⟩:=JV X Y kp;have G:=Im D hi op.kp.1 Q gr.me;have C:(x.fQ b).no=x.no+1:=rfl;have L:(x.fQ b).fr=x.fr:=rfl;refine⟨⟨A,by have:=al.n0;omega,⟨?_,?_⟩,?_,λq u=>?_,λz p=>?_,by show 1<=H1.cf.threads;rw[op.kp.2.1];exact al.th⟩,O,λk j _=>Z k j⟩
  ·rw[W,C,zO];have:=al.nl.1;simp;omega
  ·rw[C,zO];have:=al.nl.2;simp;omega
  ·show(la++[(b.1,d.a,d.b)]).map _=_;rw[W,j4,j4,al.lq]
   congr 1
   simp only[zS,qD,gr.s];have:=gr.a
   congr 3
   omega
  ·rcases zK.1 (show q∈la++[(b.1,d.a,d.b)]from u)with u|u
   ·exact al.ok q u
   ·rw[zN]at u;subst u;refine⟨gr.ok,?_⟩;show b.1%d.b=0;obtain⟨q1,e1⟩:=yz G;obtain⟨U,e2⟩:=yz K;refine Int.emod_eq_zero_of_dvd ⟨U*q1+U,?_⟩;rw[gr.a,e1,Int.mul_add,←Int.mul_assoc,←e2]
  ·have N:(x.fQ b).kn=dB x.kn b.1 b:=rfl;rw[N,L,Ug];rcases zK.1 p with p|p
   ·split
    ·exact .inl rfl
    ·exact al.dq z p
   ·simp only[yP,zN]at p;subst p;rw[zC rfl];exact .inl rfl
 | rD j hm hf F op fe=>
  rename_i b e;rw[E];have M:Kc H d.th=0:=by
   by_cases h:Kc H d.th=0
   ·exact h
   ·unfold mF at hf;rw[zC h]at hf;exact absurd hf h
  obtain⟨A,B⟩:=g.free hi hm F op fe M cf.2.1;have y:(x.gone a).kn=cS x.kn a:=rfl;have J:(x.gone a).fr=dB x.fr a true:=rfl;refine⟨⟨A,al.n0,⟨?_,al.nl.2⟩,?_,λq u=>al.ok q (zI.1 u).1,λz p=>?_,by rw[op.kp.2.1];exact al.th⟩,by show x.no<=_;omega,λk j r=>B k j λh=>r ?_⟩
  ·rw[y];have h1:=qW (λq:Int×B5=>!(q.1==a)) x.kn;have h2:=al.nl.1;show((x.kn.filter _).length:Int)<=x.no;omega
  ·show(la.filter λq=>!(q.1==a)).map _=(x.kn.filter λq=>!(q.1==a)).map _;have e1:(la.filter λq=>!(q.1==a)).map (λa=>(a.1,a.2.1,zA a.2.2))=(la.map λa=>(a.1,a.2.1,zA a.2.2)).filter λq=>!(q.1==a):=by rw[vI];rfl
   have e2:(x.kn.filter λq=>!(q.1==a)).map (λe=>(e.1,e.2.2.1,e.1-e.2.2.2.1))=(x.kn.map λe=>(e.1,e.2.2.1,e.1-e.2.2.2.1)).filter λq=>!(q.1==a):=by rw[vI];rfl
   rw[e1,e2,al.lq]
  ·rw[y,J,GI,Ug];by_cases h:z=a
   ·rw[zC h,zC h];exact .inr rfl
   ·rw[zB h,zB h];exact al.dq z p
  ·have m:=g.i k j;have hs:=m.2.s;have F:=Z1 (n:=k.2.2.1) O;omega
 | wrote j wd=>
  rw[E];rcases wd with⟨h,_⟩|⟨k,j,hin,h8,_⟩
  ·cases h
  ·have m:=g.i k j;obtain⟨S,R⟩:=hin;have p:a∈Qw k.2:=eR.kB m.2 S R h8;obtain⟨A,B,_⟩:=g.write hi j p (v:=d.va);refine⟨⟨A,al.n0,al.nl,al.lq,al.ok,al.dq,al.th⟩,O,λe V r=>B e V λh=>r ?_⟩;subst h;exact⟨by rw[m.1];exact S,by rw[m.1];exact R⟩
variable {Qa Ql:Rg}{addrs ls:Sl}
theorem kN.sR (o:kN σ0 U xb L H held s0 P gb km fm x Qa Ql addrs ad ls la)(al:AL H x ad la):(la.length:Int)<=x.no:=by
 have:=congrArg List.length al.lq;rw[zl,zl]at this;rw[this];exact al.nl.1
set_option maxRecDepth 8000 in
theorem Pf (gl:Gl U)(gc:Gc U)(b b1 b2 b3 b4 b5:Int)(hd:jr U l ds)(most:Int)(hmost:most<=60){R:Option Addr->Hp->Prop}(h0:∀σ',bK U σ'->R none σ')
 (h1:∀σ' xb L H held s0 P gb km fm x Qa Ql addrs ad ls la,kN U σ' xb L H held s0 P gb km fm x Qa Ql addrs ad ls la->AL H x ad la->x.no<=60->R (some ⟨xb,0,none⟩) σ'):XM.c b b1 b2 b3 b4 b5 l most U R:=by
 refine XM.o ?_;unfold XM.v;have hl:=hd.len;have hbig:=hd.xH;refine nw (cs:=[.int .i64 b,.int .i64 b1,.int .i64 b2,.int .i64 b3,.int .i64 b4,.int .i64 b5]) λv hz e A=>A.rI rfl (A.rI rfl (A.rI rfl (A.rI rfl (A.rI rfl (A.rI rfl (WJ.o ?_))))));unfold WJ.v;refine nw (cs:=[.int .i64 b,.int .i64 b1,.int .i64 b2,.int .i64 b3,.int .i64 b4,.int .i64 b5]) λv1 Y e1 hb1=>hb1.eY rfl ?_;have G:=e.trans e1;have B:=e1.bT A id;refine KF (λr w=>v1=w/\(r=false->b1<=128/\(ds.length:Int)<=most)) (λr w ⟨hw,hr⟩=>?_) λJ hJ=>cQ (λh=>hJ _ _ ⟨rfl,λh=>by cases h⟩) λh=>SB (hJ _ _ ⟨rfl,λh'=>by have:=wT h';exact⟨O,O⟩⟩);subst hw;refine cO (λht=>h0 v1 G) λhf=>?_;obtain⟨hpg,hlm⟩:=hr hf;refine B.rI rfl (B.rI rfl (B.rI rfl (B.rI rfl (B.rI rfl (B.rI rfl (Xs.o ?_))))));unfold Xs.v;refine nw (cs:=[.int .i64 b,.int .i64 b1,.int .i64 b2,.int .i64 b3,.int .i64 b4,.int .i64 b5]) λv1' hz1' e1' s=>?_;have y:=G.trans e1';refine s.rI rfl (s.rI rfl (s.rI rfl (s.rI rfl (s.rI rfl (s.rI rfl ?_)))));refine Jy (gl.bO y) (gc.bO y).gd b b1 b2 b3 b4 b5 (λv2 e2=>cD rfl (cD rfl (h0 v2 (y.trans e2)))) λv2 L0 N H0 e2 hsN hNv hh F=>cB rfl ?_;have W:=y.trans e2;refine Dl W hh.cut F.hi F.cf (by have:=F.pg;omega) (λb A=>⟨by have:=y.1;have:N<=b:=A.1;omega,A.2⟩) (Av gl gc.gd) λw gb km fm e3 hm p=>bV.intro (cB rfl (cB rfl ?_));refine nw (cs:=wS gb ⟨none,0,0⟩ ⟨none,0,0⟩) λw1 Y e4 X=>cB rfl ?_;have p4:=p.fr e4;have o4:kN U w1 w.size L0 H0 [] (K0 H0.cf.aF) _ gb km fm nI (λ_=>False) (λ_=>False) ⟨none,0,0⟩ [] ⟨none,0,0⟩ []:=
  ⟨p4,X,⟨rfl,.inl ⟨rfl,rfl⟩⟩,⟨rfl,.inl ⟨rfl,rfl⟩⟩,⟨p.e.1,λhM=>by have:=ye p hM;omega,id,id⟩,λb A=>A.elim,λb A=>A.elim,λb A=>A.elim⟩
 have S:AL H0 nI [] []:=⟨⟨by rw[F.live];rfl,λe he=>by simp[nI]at he,λj=>by
  unfold fG;cases hj:H0.bQ[j]? with
  | none=>rfl
  | some g=>exact F.ph g (zG hj),λe he=>by simp[nI]at he,by simp[nI]⟩,by simp[nI],by simp[nI],rfl,λa ha=>by simp at ha,λa ha=>by simp at ha,F.th⟩
 refine Z6 (a:=bN) (λ(z:Int) u=>∃(i:Nat) (L:dK) (H:Hw) (held:List Pc) (s0:Sp) (P:Rg) (x:Gu) (Qa Ql:Rg) (addrs:Sl) (ad:List Int) (ls:Sl) (la:List T3),z=i/\i<=ds.length/\kN U u w.size L H held s0 P gb km fm x Qa Ql addrs ad ls la/\AL H x ad la/\x.no<=i) (λz _=>ds.length-z.toNat)
  ⟨0,L0,H0,_,_,_,nI,_,_,_,[],_,[],rfl,O,o4,S,by simp[nI]⟩ ?_
 rintro(z:Int) u ⟨i,L,H,held,s0,P,x,Qa,Ql,addrs,ad,ls,la,rfl,hi,o,al,hno⟩;refine cQ (λhlt=>?_) λhge=>?_
 ·have M:ds[i]?=some (ds[i]' O):=cV _;generalize (ds[i]' O)=d at M;have Q:=hd.i _ (zG M);refine hd.rd o.p.e M λba oa D=>gG (D _ o.p.e 0 _ rfl) (gG (D _ o.p.e 1 _ rfl) (gG (D _ o.p.e 2 _ rfl) (gG (D _ o.p.e 3 _ rfl) (gG (D _ o.p.e 4 _ rfl) (gG (D _ o.p.e 5 _ rfl) (gG (D _ o.p.e 6 _ rfl) (AB (D _ o.p.e 7 _ rfl) ?_)))))));have n0:=al.n0;have nl:=al.nl;have hla:=o.sR al;refine OT o gc al.g.i ⟨n0,O⟩ (by rw[al.g.cG o.p.hi];simp) O O d Q λer u2 L' H' E Z P' x' Qa' Ql' C K add del o' hLp out kp _=>?_;obtain⟨V,hno',_⟩:=al.out o.p.hi o.p.cf out;exact cP (m:=i+1) O O ⟨⟨i+1,L',H',E,Z,P',x',Qa',Ql',C,_,K,_,rfl,O,o',V,O⟩,O⟩
 ·exact h1 u w.size L H held s0 P gb km fm x Qa Ql addrs ad ls la o al O
end Go.Ar
namespace Go.Ar
open Go Go.Vc Go.Proofs Go.RowKit Go.Maps Go.Sort Go.Shelf
open Go.Vc (bW dB cS)
open Go.Bu (lU UM Vv UR KZ xV)
variable {U σ0 v w w':Hp}{F P Q X T:Rg}{L:dK}{H H' H1:Hw}{held:List Pc}{s0 sp:Sp}{t n:Nat}{gb km fm m:Nat}{x y:Gu}{b:B5}
def HF:Nat:=Tryz.hO.f 10
def AX:Nat:=Tryz.hO.t 23
theorem Rs (m:Option Nat){R:Fv->Hp->Prop}(hR:R ⟨HF,#[],#[.pointer (some ⟨U.size,0,none⟩)]⟩ (U.push (.cells #[.map m] AX (0,0)))) :
 Zd.c m U R:=by
 rintro w rfl;refine(callsIn_wide.1 (AnyZI.keys_in Tryz.kI Fence.wide 5 trivial rfl m w)).mono ?_;rintro e a ⟨rfl,rfl⟩;exact⟨⟨rfl,rfl,rfl,rh (by show _<(w.heap.push _).size;simp)⟩,[.func (.func HF) #[] #[.pointer (some ⟨w.heap.size,0,none⟩)]],rfl,⟨HF,#[],#[.pointer (some ⟨w.heap.size,0,none⟩)]⟩,rfl,hR⟩
theorem MH {w:World}{c m:Nat}{B:List (Int×B5)}(hc:cell w.heap ⟨c,0,none⟩=some (.map (some m)))(hm:dI w.heap m .i64 (.ag 5) B)(hb:∀x∈B,Go.Bu.kU x.1)(hs:B.length<=1000000)(n:Nat)(hn:1<=n) :
 SeqGives Fence.wide n Tryz.prog HF #[.pointer (some ⟨c,0,none⟩)] encZ (λss=>ss.Perm (B.map (·.1))) B.length w:=by
 obtain⟨D,d,i,a⟩:=KZ (P:=Tryz.prog) Tryz.kI.t26 hm hb hs;have b:c<w.heap.size:=by
  unfold cell at hc;split at hc
  ·rename_i h;exact(zt.1 h).1
  ·cases hc
 have:=AnyZI.keys_gives (ρ:=Tryz.hO) {Tryz.kI with} Fence.wide n trivial rfl hn c m B.length D w b hc d;intro l J W hW hJ hY h0;rw[a]at this;refine(this l J W hW hJ hY h0).mono ?_;rintro e W' ⟨p,ss,j,g⟩;exact⟨p,ss,j.trans i,g⟩
theorem NT {c m:Nat}{B:List (Int×B5)}(hc:cell U ⟨c,0,none⟩=some (.map (some m)))(hm:dI U m .i64 (.ag 5) B)(hb:∀x∈B,Go.Bu.kU x.1)(hs:B.length<=1000000){R:Sl->Hp->Prop}
 (hR:∀(s:Sl) (σ':Hp) (ss:List Int),bK U σ'->ss.Perm (B.map (·.1))->ss.Pairwise (· <= ·)->lU U.size σ' s (ss.map (Value.int .i64))->R s σ') :
 Vq.c ⟨HF,#[],#[.pointer (some ⟨c,0,none⟩)]⟩ U R:=by
 rintro w rfl;have d:=MH hc hm hb hs 2 O;have p:B.length<=maxLen:=by unfold maxLen;omega
 have u:=AnyZI.sorted_in Tryz.pZ Fence.wide 5 trivial trivial trivial trivial rfl O (xV _) (Tryz.lz.f5.enters rfl) HF #[.pointer (some ⟨c,0,none⟩)] trivial (Tryz.kI.f10.enters rfl) _ _ p O _ d;refine(callsIn_wide.1 u).mono ?_;rintro e D ⟨v,ss,rfl,z,i,r,g⟩;obtain⟨s,rfl,j⟩:=UM i;refine⟨UR g,[.slice s.a s.len s.cap],rfl,s,rfl,?_⟩;refine hR s _ (ss.mergeSort λx y=>decide (x<=y)) (Vv g) ((List.mergeSort_perm _ _).trans z) ?_ j;have:=List.pairwise_mergeSort (le:=λx y:Int=>decide (x<=y)) (λa b c C A=>by simp at *;omega) (λa b=>by simp;omega) ss;exact this.imp (λh=>by simpa using h)
structure vd (x:Gu) (es:List (Int×B5)):Prop where
 p:es.Perm x.kn
 s:es.Pairwise λa b=>a.1<b.1
def b4 (e:Int×B5):Bk:=(e.2.1,e.2.2.1,e.2.2.2.1,e.2.2.2.2.1)
theorem NM (p:GP σ0 U L H held s0 P gb km fm x)(xi:∀e∈x.kn,e.1=e.2.1/\gW e.2)(hl:x.kn.length<=1000000){R:Sl->Hp->Prop}(hR:∀s σ' es,bK U σ'->vd x es->bR s 4 (jy (es.map b4)) σ' (λb=>U.size<=b)->R s σ'):YJ.c (aW gb) U R:=by
 refine YJ.o ?_;unfold YJ.v;have A:∀e∈x.kn,Go.Bu.kU e.1:=λe g=>by
  have h:=xi e g;have J:=h.1;have M:=h.2.z;have h3:=h.2.base;have h4:=h.2.t;have h5:=h.2.m;have h6:=h.2.s;have W:=Z1 (n:=e.2.2.1) O;unfold Go.Bu.kU;omega
 have r:=p.m.nodup;refine VO p (cB rfl (aG (p.b.rM rfl (Rs _ ?_))));have e1:bK U (U.push (.cells #[.map (some km)] AX (0,0))):=Ext.push _ _ _;have p1:=p.fr e1;refine NT (by unfold cell;simp) p1.m A hl λs u d e2 Q N hs=>?_;have S:=e1.trans e2;have C:=cU.tg hs;have B:d.Nodup:=Q.nodup_iff.2 r;have X:d.length=x.kn.length:=by rw[Q.length_eq];simp
 have hsl:s.len=d.length:=by have:=C.1;simp at this;omega
 let f:Int->Int×B5:=λk=>(k,(bW x.kn k).getD (0,0,0,0,0))
 have D:∀e∈x.kn,f e.1=e:=λe g=>by
  show(e.1,(bW x.kn e.1).getD (0,0,0,0,0))=e;rw[QA r (show(e.1,e.2)∈x.kn from g)];rfl
 have hz1:U.size<u.size:=by
  have J:=e2.1;have M:(U.push (.cells #[.map (some km)] AX (0,0))).size=U.size+1:=by simp
  omega
 refine UH (a:=.s) (bb:=bN) (λ(out:Sl) (z:Int) w=>∃i:Nat,z=i/\i<=d.length/\bK u w/\bR out 4 (jy (((d.take i).map f).map b4)) w (λb=>u.size<=b)) (λ_ z _=>d.length-z.toNat) ⟨0,rfl,O,Ext.refl _ _,⟨by simp[jy],.inl ⟨rfl,rfl⟩⟩⟩ ?_;rintro(out:Sl) (z:Int) w ⟨i,rfl,hil,ew,hr⟩;have W:=p1.fr (e2.trans ew);refine cQ (λhlt=>?_) λhge=>?_
 ·have hx:d[i]?=some (d[i]' O):=cV _;have hol:out.len=i:=by have:=hr.1;rw[AU]at this;simp at this;omega
  have K:(d[i]' O)∈x.kn.map (·.1):=Q.mem_iff.1 (j7 _);obtain⟨e,g,G⟩:=zE.1 K;have V:f (d[i]' O)=e:=by rw[←G];exact D e g
  refine(aH.bO (aH.cut C) ew).nc hx (aG (W.b.rM rfl ⟨x.kn,W.m,?_⟩));have E:bW x.kn (d[i]' O)=some e.2:=by rw[←G];exact QA r (show(e.1,e.2)∈x.kn from g)
  rw[E];refine hr.push (F:=λb=>u.size<=b) (vs:=k8 (b4 e)) (λb y=>by have:=ew.1;omega) rfl rfl (by simp[k8,dQ]) O O λs' w' hsl' Z Y=>?_;have e3:bK u w':=Ext.fresh ew Z λb y=>y;refine cP (m:=i+1) O O ⟨⟨i+1,rfl,O,e3,?_⟩,O⟩;have:jy (((d.take (i+1)).map f).map b4)=jy (((d.take i).map f).map b4)++k8 (b4 e):=by
   unfold jy;rw[k6,hx,j4,j4,List.flatMap_append];simp only[yP,zS,qD,oS,List.flatMap_nil,kP,V]
  rw[this];exact Y
 ·have aa:i=d.length:=by omega
  subst aa;rw[mK]at hr;have j:(d.map f).Perm x.kn:=by
   have J:=Q.map f;rw[lb]at J;have M:x.kn.map (f∘λe=>e.1)=x.kn:=by
    conv=>rhs;rw[←tU x.kn]
    exact j2 λe g=>D e g
   rwa [M]at J
  refine hR out w (d.map f) (S.trans ew) ⟨j,?_⟩ (aI.mono hr λb _ y=>by
   show U.size<=b;have y:u.size<=b:=y;omega)
  rw[r8];exact(N.and B).imp λ{a b} ⟨J,M⟩=>by
   have h3:a≠b:=M;show a<b;omega
end Go.Ar
namespace Go.Proofs
open Go.Vc
set_option maxRecDepth 100000
def WQ.h:Hn:=.q .o2 (.q .o4 (.q (.q (.cR (.seq [.op,.op,.op,.cX false 6 (RI.ops 6)])) .aJ) (.q .o6 (.q (.q .o3 .aK) (.q .gH (.q (.oq 11) (.q (.o 12) (.q (.cR (.gA true [12] [(15,.one .ad),(16,.I)] (.tk [0,1,2,3,4,5,6] (.all [(7,.tk [8,9,10] (.all [(11,.all [(12,.take 13 (.done))])])),(11,.all [(7,.tk [8,9,10] (.all [(12,.take 13 (.done))]))])])))) (.q (.cR (.gA true [15] [(17,.one .ad),(18,.I)] (.tk [0,1,2,3,4,5,6,7] (.all [(8,.take 9 (.all [(10,.tk [11,12,13] (.all [(14,.all [(15,.take 16 (.done))])])),(14,.all [(10,.tk [11,12,13] (.all [(15,.take 16 (.done))]))])])),(14,.all [(8,.take 9 (.all [(10,.tk [11,12,13] (.all [(15,.take 16 (.done))]))]))])])))) (.q (.cR (.seq [.op,.op,.op,.op,.cX true 2 [.op,.op],.op,.cX true 3 (RI.ops 3),.op,.cX true 2 [.op,.op],.op,.cX true 3 (RI.ops 3),.op,.cX true 2 [.op,.op],.op,.cX true 1 [.op],.op])) .l))))))))))
def WQ.v (a b c d e f:Int)(g:Sl)(h i:Int)(j:Hp)(k:aO):Prop:=aV #[.I a,.I b,.I c,.I d,.I e,.I f] 25 j λl m=>aQ l 0 m λn=>aQ l 1 m λo=>aQ l 2 m λp=>aQ l 3 m λq=>aQ l 4 m λr=>aQ l 5 m λs=>XM.c n o p q r s g 40 m λt u=>bV (λv w=>If v (WW.c w λx y=>k x y) (bF t 0 w λaa=>YJ.c aa w λab ac=>If (((ab.len:Nat):Int)==0) (k false ac) (bL h λad=>Nz ((ab.len:Nat):Int) <| Ix ab.a ab.len (ad.tmod ((ab.len:Nat):Int)) 4 λae=>aQ ae 0 ac λaf=>aQ ae 1 ac λag=>aQ ae 2 ac λah=>aQ ae 3 ac λai=>aV #[.I 0,.I 0,.I 0,.I 0] 52 ac λaj ak=>aR aj 0 (.I af) ak λal=>aR aj 1 (.I ag) al λam=>aR aj 2 (.I ah) am λan=>aR aj 3 (.I ai) an λao=>aQ aj 0 ao λap=>Ar .u64 i λaq=>aQ aj 1 ao λar=>Ar .u64 ar λau=>Nz au <| bL (aq.tmod au) λav=>bL (ap+av) λaw=>bF t 0 ao λay=>WE.c ay aw ao λaz a0 a1 a2 a3 a4=>aV #[.I 0,.I 0,.I 0,.I 0] 52 a4 λa5 a6=>aR a5 0 (.I az) a6 λa7=>aR a5 1 (.I a0) a7 λa8=>aR a5 2 (.I a1) a8 λa9=>aR a5 3 (.I a2) a9 λba=>Jn [.ad,bN] (λ(bb:Addr) (bc:Int) bd=>Jn [.ad,bN] (λ(be:Addr) (bf:Int) bg=>aQ a5 0 bg λbh=>aQ a5 1 bg λbi=>aQ a5 2 bg λbj=>aQ a5 3 bg λbk=>aQ aj 0 bg λbl=>aQ aj 1 bg λbm=>
 aQ aj 2 bg λbn=>aQ aj 3 bg λbo=>bV (λbp bq=>bV (λbr bs=>bV (λbt bu=>bV (λbv bw=>bV (λbx bz=>bV (λb0 b1=>k b0 b1) λb2=>If bx (WW.c bz λb3 b4=>b2 b3 b4) (b2 false bz)) λb5=>If bv (b5 (bf==8) bw) (b5 false bw)) λb6=>If bt (aQ be 0 bu λb7=>aQ be 1 bu λb8=>aQ be 2 bu λb9=>aQ be 3 bu λca=>aQ aj 0 bu λcb=>aQ aj 1 bu λcc=>aQ aj 2 bu λcd=>aQ aj 3 bu λce=>b6 (!((b7==cb)&&((b8==cc)&&((b9==cd)&&((ca==ce)&&true))))) bu) (b6 false bu)) λcf=>If br (cf (bc==8) bs) (cf false bs)) λcg=>If bp (aQ bb 0 bq λch=>aQ bb 1 bq λci=>aQ bb 2 bq λcj=>aQ bb 3 bq λck=>aQ aj 0 bq λcl=>aQ aj 1 bq λcm=>aQ aj 2 bq λcn=>aQ aj 3 bq λco=>cg (!((ch==cl)&&((ci==cm)&&((cj==cn)&&((ck==co)&&true))))) bq) (cg false bq)) λcp=>If ((bh==bl)&&((bi==bm)&&((bj==bn)&&((bk==bo)&&true)))) (cp (a3==0) bg) (cp false bg)) λcq=>eI bd λcr=>bU t λcs=>aU cr cs 0 λct=>aS cr aj 0 λcu=>aS cr aj 1 λcv=>(X8.c cv bd λcw cx=>And (cr cx) <| bL (cu+cw) λcy=>(WE.c ct cy cx λcz c0 c1 c2 c3 c4=>And (cr c4) <| aV #[.I 0,.I 0,.I 0,.I 0] 52 c4 λc5 c6=>And (cr c6) <| aR c5 0 (.I cz) c6 λc7=>aR c5 1 (.I c0) c7 λc8=>aR c5 2 (.I c1) c8 λc9=>aR c5 3 (.I c2) c9 λda=>cq c5 c3 da) ∧
 (aV #[.I 0,.I 0,.I 0,.I 0] 52 cx λdb dc=>And (cr dc) <| WE.c ct cy dc λdd de df dg dh di=>And (cr di) <| aR db 0 (.I dd) di λdj=>aR db 1 (.I de) dj λdk=>aR db 2 (.I df) dk λdl=>aR db 3 (.I dg) dl λdm=>cq db dh dm)) ∧ (aV #[.I 0,.I 0,.I 0,.I 0] 52 bd λdn dp=>And (cr dp) <| X8.c cv dp λdq dr=>And (cr dr) <| bL (cu+dq) λds=>WE.c ct ds dr λdt du dv dw dx dy=>And (cr dy) <| aR dn 0 (.I dt) dy λdz=>aR dn 1 (.I du) dz λd0=>aR dn 2 (.I dv) d0 λd1=>aR dn 3 (.I dw) d1 λd2=>cq dn dx d2)) λd3=>eI ba λd4=>bU t λd5=>aU d4 d5 0 λd6=>aS d4 aj 0 λd7=>bL (d7-1) λd8=>(WE.c d6 d8 ba λd9 ea eb ec ed ee=>And (d4 ee) <| aV #[.I 0,.I 0,.I 0,.I 0] 52 ee λef eg=>And (d4 eg) <| aR ef 0 (.I d9) eg λeh=>aR ef 1 (.I ea) eh λei=>aR ef 2 (.I eb) ei λej=>aR ef 3 (.I ec) ej λek=>d3 ef ed ek) ∧ (aV #[.I 0,.I 0,.I 0,.I 0] 52 ba λel em=>And (d4 em) <| WE.c d6 d8 em λen eo ep eq er es=>And (d4 es) <| aR el 0 (.I en) es λet=>aR el 1 (.I eo) et λeu=>aR el 2 (.I ep) eu λev=>aR el 3 (.I eq) ev λew=>d3 el er ew)))) λex=>If t.isNone (ex true u) (bE t 2 u λez=>ex (((ez.len:Nat):Int)==0) u)
theorem WQ.o {a b c d e f g h i j k}(l:WQ.v a b c d e f g h i j k):WQ.c a b c d e f g h i j k:=Wa Tryz.func5 (x:=WQ.h) (R0 l)
end Go.Proofs