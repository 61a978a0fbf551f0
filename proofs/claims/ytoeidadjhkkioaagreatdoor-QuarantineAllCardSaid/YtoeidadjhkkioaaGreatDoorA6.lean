/- Texts joined. -/
import Derived.Test.YtoeidadjhkkioaaGreatDoorA5
set_option linter.unusedVariables false
set_option linter.unusedSimpArgs false
namespace Go.Ar
variable {c:cA}{ss:List cH}
structure dI (c:cA) (ss:List cH):Prop where
 ok:c.ok
 tk:∀s∈ss,s.tk.length=c.n
 uK:ss.Pairwise λa b=>a.st+c.aG<=b.st
def Tk (c:cA)(ss:List cH)(x:Int):Prop:=eB c ss x=some true
def wa (c:cA)(ss:List cH)(p:Nat):Prop:=∃s∈ss,s.st<=p/\p<s.st+c.aG
theorem dI.pos (h:dI c ss):0<c.size:=by have:=h.ok;unfold cA.ok at this;omega
theorem dI.pg (h:dI c ss):1<=c.aG:=by have:=h.ok;unfold cA.ok at this;omega
theorem dI.qT (h:dI c ss):ss.Pairwise λa b=>a.st<b.st:=h.uK.imp λ{a b} d=>by have:=h.pg;omega
theorem dI.uY (h:dI c ss){i j:Nat}{s t:cH}(hi:ss[i]?=some s)(hj:ss[j]?=some t)(hij:i<j):s.st+c.aG<=t.st:=by
 obtain⟨a,rfl⟩:=cX.1 hi;obtain⟨b,rfl⟩:=cX.1 hj;exact kS.1 h.uK i j a b hij
theorem dI.ya (h:dI c ss){i j:Nat}{s t:cH}{p:Nat}(hi:ss[i]?=some s)(hj:ss[j]?=some t)(h1:s.st<=p)(h2:p<s.st+c.aG)(h3:t.st<=p)(h4:p<t.st+c.aG):i=j:=by
 rcases qB i j with hl|hl|hl
 ·have:=h.uY hi hj hl;omega
 ·exact hl
 ·have:=h.uY hj hi hl;omega
theorem F0 (hp:0<c.size){s:cH}{i:Nat}(hi:i<c.n):s.st*256<=at_ c s i/\at_ c s i+c.size<=(s.st+c.aG)*256:=by
 have b:=cA.yd c;have a:(i+1)*c.size<=c.n*c.size:=mA _ hi;unfold at_;rw[zo]at a;omega
theorem GE (hp:0<c.size){s:cH}{i x:Nat}(hi:i<c.n)(h1:at_ c s i<=x)(h2:x<at_ c s i+c.size):s.st<=x/256/\x/256<s.st+c.aG:=by
 have:=F0 hp (s:=s) hi;omega
theorem UV (h:dI c ss){k l:Nat}{s t:cH}{i j x:Nat}(hk:ss[k]?=some s)(hl:ss[l]?=some t)(hi:i<c.n)(hj:j<c.n)(h1:at_ c s i<=x)(h2:x<at_ c s i+c.size)(h3:at_ c t j<=x)(h4:x<at_ c t j+c.size):k=l/\s=t/\i=j:=by
 have b:=GE h.pos hi h1 h2;have a:=GE h.pos hj h3 h4;have e:=h.ya hk hl b.1 b.2 a.1 a.2;subst e;rw[hk]at hl;cases hl;refine⟨rfl,rfl,?_⟩;unfold at_ at *;have d:=h.pos;rcases qB i j with hl|hl|hl
 ·have:(i+1)*c.size<=j*c.size:=mA _ hl;rw[zo]at this;omega
 ·exact hl
 ·have:(j+1)*c.size<=i*c.size:=mA _ hl;rw[zo]at this;omega
theorem By (h:dI c ss){s:cH}(hs:s∈ss){x:Int}{i:Nat}(hi:idx c s x=some i):i<c.n/\((s.st*256:Nat):Int)<=x/\x<(((s.st+c.aG)*256:Nat):Int)/\((at_ c s i:Nat):Int)<=x/\x<((at_ c s i+c.size:Nat):Int):=by
 obtain⟨d,b,a⟩:=(Ux h.pos).1 hi;rw[h.tk s hs]at a;have:=F0 h.pos (s:=s) a;have e:at_ c s (i+1)=at_ c s i+c.size:=by unfold at_;rw[zo];omega
 rw[e]at b;omega
theorem Ia (h:dI c ss){k:Nat}{s:cH}{x:Int}{i:Nat}(hs:ss[k]?=some s)(hi:idx c s x=some i):ld c ss x=some k:=by
 obtain⟨r,g⟩:=cX.1 hs;refine n4.2 ⟨r,by rw[g,hi];rfl,λj p u=>?_⟩;have d:j<ss.length:=by omega
 obtain⟨w,m⟩:=pX.1 u;have a:=By h (zG hs) hi;have b:=By h (zt d) m;have:=h.uY (cW d) hs p;omega
theorem EY (h:dI c ss){x:Int}{b:Bool}:eB c ss x=some b↔∃(k:Nat) (s:cH) (i:Nat),ss[k]?=some s/\i<c.n/\x=((at_ c s i:Nat):Int)/\s.is i=b:=by
 constructor
 ·intro hx;obtain⟨k,s,i,_,a,g,j⟩:=Ac hx;obtain⟨p,m⟩:=(U8 h.pos).1 g;rw[h.tk s (zG a)]at m;exact⟨k,s,i,a,m,p,j⟩
 ·rintro⟨k,s,i,a,hi,rfl,j⟩;have r:=h.tk s (zG a);have g:obj c s ((at_ c s i:Nat):Int)=some i:=(U8 h.pos).2 ⟨rfl,O⟩;have d:idx c s ((at_ c s i:Nat):Int)=some i:=(Ux h.pos).2 ⟨xW _,by have:=h.pos;unfold at_;rw[zo];omega,O⟩;rw[Uh (Ia h a d) a,g,←j];rfl
theorem Ug (h:dI c ss){x:Int}:Tk c ss x↔∃(k:Nat) (s:cH) (i:Nat),ss[k]?=some s/\i<c.n/\x=((at_ c s i:Nat):Int)/\s.is i=true:=EY h
theorem Ep (h:dI c ss){x:Int}{a:Nat}:r7 c ss x=some a↔∃(k:Nat) (s:cH) (i:Nat),ss[k]?=some s/\i<c.n/\a=at_ c s i/\((at_ c s i:Nat):Int)<=x/\x<((at_ c s i+c.size:Nat):Int):=by
 constructor
 ·intro hf;cases ho:ld c ss x with
  | none=>rw[F2 ho]at hf;cases hf
  | some k=>
   have g:=(n4.1 ho).1;have b:ss[k]?=some ss[k]:=cW g;rw[GF ho b]at hf;obtain⟨i,hi,rfl⟩:=oz.1 hf;have:=By h (zG b) hi;exact⟨k,_,i,b,this.1,rfl,this.2.2.2.1,this.2.2.2.2⟩
 ·rintro⟨k,s,i,b,hi,rfl,h1,h2⟩;have j:=h.tk s (zG b);have e:at_ c s (i+1)=at_ c s i+c.size:=by unfold at_;rw[zo];omega
  have d:idx c s x=some i:=(Ux h.pos).2 ⟨h1,by rw[e];exact h2,O⟩;rw[GF (Ia h b d) b,d];rfl
theorem dI.put (h:dI c ss){k i:Nat}{s:cH}(hs:ss[k]?=some s)(v:Bool):dI c (ss.set k (s.put i v)):=by
 have r:=(cX.1 hs).1;refine⟨h.ok,λt p=>?_,?_⟩
 ·rcases yX p with p|rfl
  ·exact h.tk t p
  ·rw[show(s.put i v).tk.length=s.tk.length by simp[cH.put]];exact h.tk s (zG hs)
 ·rw[kS];intro a b ha hb hab;have g:a<ss.length:=by simpa using ha
  have m:b<ss.length:=by simpa using hb
  have d:∀j (hj:j<(ss.set k (s.put i v)).length) (hj':j<ss.length),(ss.set k (s.put i v))[j].st=ss[j].st:=by
   intro j hj hj';rw[List.getElem_set];split
   ·rename_i e;subst e;have:ss[k]=s:=(cX.1 hs).2;rw[this];rfl
   ·rfl
  rw[d a ha g,d b hb m];exact kS.1 h.uK a b g m hab
theorem Lu {k i:Nat}{s:cH}(hs:ss[k]?=some s)(v:Bool):(ss.set k (s.put i v)).map (·.st)=ss.map (·.st):=by
 apply zy;intro j;simp only[zZ];by_cases hjk:j=k
 ·subst hjk;rw[zO (cX.1 hs).1,hs];rfl
 ·rw[zh (Ne.symm hjk)]
theorem Db {s:cH}{i j:Nat}{v:Bool}(hi:i<s.tk.length):(s.put i v).is j=if j=i then v else s.is j:=by
 unfold cH.is cH.put;simp only[zQ];by_cases hj:j=i
 ·subst hj;rw[zO hi,zC rfl];rfl
 ·rw[zh (Ne.symm hj),zB hj]
theorem F8 (h:dI c ss){k i:Nat}{s:cH}(hs:ss[k]?=some s)(hi:i<c.n)(v:Bool){y:Int}:Tk c (ss.set k (s.put i v)) y↔(y=((at_ c s i:Nat):Int)/\v=true)\/(y≠((at_ c s i:Nat):Int)/\Tk c ss y):=by
 have b:=(cX.1 hs).1;have m:=h.tk s (zG hs);have g:=h.pos;rw[Ug (h.put hs v),Ug h];constructor
 ·rintro⟨l,t,j,ht,hj,rfl,hb⟩;by_cases hlk:l=k
  ·subst hlk;rw[zO b]at ht;cases ht;rw[Db O]at hb;by_cases a:j=i
   ·subst a;rw[zC rfl]at hb;exact .inl ⟨rfl,hb⟩
   ·rw[zB a]at hb;refine .inr ⟨λe=>a ?_,l,s,j,hs,hj,rfl,hb⟩;have d:at_ c s j=at_ c s i:=by have:=Int.ofNat.inj e;exact this
    exact(UV h hs hs hj hi (zE _) O O O).2.2
  ·rw[zh (Ne.symm hlk)]at ht;refine .inr ⟨λe=>hlk ?_,l,t,j,ht,hj,rfl,hb⟩;have d:at_ c t j=at_ c s i:=Int.ofNat.inj e;exact(UV h ht hs hj hi (zE _) O O O).1
 ·rintro(⟨rfl,rfl⟩|⟨hne,l,t,j,ht,hj,rfl,hb⟩)
  ·exact⟨k,s.put i true,i,zO b,hi,rfl,by rw[Db O,zC rfl]⟩
  ·by_cases hlk:l=k
   ·subst hlk;rw[hs]at ht;cases ht;have a:j≠i:=λe=>hne (by rw[e]);exact⟨l,s.put i v,j,zO b,hj,rfl,by rw[Db O,zB a];exact hb⟩
   ·exact⟨l,t,j,(zh (Ne.symm hlk)).trans ht,hj,rfl,hb⟩
theorem IZ {p:Nat}:wa c ss p↔∃x∈ss.map (·.st),x<=p/\p<x+c.aG:=by
 constructor
 ·rintro⟨s,a,h⟩;exact⟨_,zD.2 ⟨s,a,rfl⟩,h⟩
 ·rintro⟨x,hx,h⟩;obtain⟨s,a,rfl⟩:=zD.1 hx;exact⟨s,a,h⟩
theorem ME {ss':List cH}(e:ss'.map (·.st)=ss.map (·.st)){p:Nat}:wa c ss' p↔wa c ss p:=by rw[IZ,IZ,e]
theorem MP (h:dI c ss){x:Nat}{ss':List cH}(ho:iZ c ss=some (x,ss')):dI c ss'/\ss'.map (·.st)=ss.map (·.st)/\¬Tk c ss (x:Int)/\∀y,Tk c ss' y↔y=(x:Int)\/Tk c ss y:=by
 unfold iZ at ho;split at ho
 ·rename_i k hk;obtain⟨_,s,g,m⟩:=Kn hk;rw[g]at ho;simp only at ho;split at ho
  ·rename_i i hi;cases ho;obtain⟨r,w,p,u⟩:=A5 m;rw[hi]at w;cases w;have j:i<c.n:=by rw[←h.tk s (zG g)];exact p
   have a:¬Tk c ss ((at_ c s i:Nat):Int):=λd=>by
    have z:=(EY h (x:=((at_ c s i:Nat):Int)) (b:=false)).2 ⟨k,s,i,g,j,rfl,u⟩;unfold Tk at d;rw[z]at d;cases d
   refine⟨h.put g true,Lu g true,a,λy=>?_⟩;rw[F8 h g j];constructor
   ·rintro(⟨e,_⟩|⟨_,d⟩)
    ·exact .inl e
    ·exact .inr d
   ·rintro(e|d)
    ·exact .inl ⟨e,rfl⟩
    ·exact .inr ⟨λe=>a (e▸d),d⟩
  ·cases ho
 ·cases ho
theorem Gx:∀(m:Nat) {ss:List cH},dI c ss->dI c (KH c m ss).2/\(KH c m ss).2.map (·.st)=ss.map (·.st)/\(KH c m ss).1.length<=m/\(KH c m ss).1.Nodup/\(∀x∈(KH c m ss).1,¬Tk c ss (x:Int))/\∀y,Tk c (KH c m ss).2 y↔(∃x∈(KH c m ss).1,y=((x:Nat):Int))\/Tk c ss y
 | 0,ss,h=>⟨h,rfl,zE _,ua,by simp[KH],by simp[KH]⟩
 | m+1,ss,h=>by
  cases ho:iZ c ss with
  | none=>
   have e:KH c (m+1) ss=([],ss):=by simp[KH,ho]
   rw[e];exact⟨h,rfl,by simp,ua,by simp,by simp⟩
  | some r=>
   obtain⟨x,i⟩:=r;rw[Gk ho];obtain⟨j,g,d,a⟩:=MP h ho;obtain⟨w,s,B,p,b,z⟩:=Gx m j;refine⟨w,s.trans g,by simp;omega,zr.2 ⟨λu=>b x u ((a _).2 (.inl rfl)),p⟩,?_,λy=>?_⟩
   ·intro y hy;rcases zW.1 hy with rfl|hy
    ·exact d
    ·exact λA=>b y hy ((a _).2 (.inr A))
   ·rw[z,a];simp only[zW,exists_eq_or_imp];constructor
    ·rintro(h|h|h)
     ·exact .inl (.inr h)
     ·exact .inl (.inl h)
     ·exact .inr h
    ·rintro((h|h)|h)
     ·exact .inr (.inl h)
     ·exact .inl h
     ·exact .inr (.inr h)
theorem Jr:∀(xs:List Int) {ss:List cH},dI c ss->kF c ss xs->dI c (xs.foldl (fH c) ss)/\(xs.foldl (fH c) ss).map (·.st)=ss.map (·.st)/\∀y,Tk c (xs.foldl (fH c) ss) y↔Tk c ss y/\y∉xs
 | [],ss,h,_=>⟨h,rfl,by simp⟩
 | x::xs,ss,h,hA=>by
  have hx:=hA.1 x aA;obtain⟨k,s,i,p,d,j,_⟩:=Ac hx;obtain⟨b,a⟩:=(U8 h.pos).1 j;rw[h.tk s (zG d)]at a;have e:=AS p d j;have w:=h.put d false (i:=i);have g:=hA.next h.pos;obtain⟨u,m,r⟩:=Jr xs (ss:=fH c ss x) (by rw[e];exact w) g;rw[re];refine⟨u,m.trans (by rw[e];exact Lu d false),λy=>?_⟩;rw[r,e,F8 h d a,←b];simp only[za,and_false,false_or,zW,not_or];constructor
  ·rintro⟨⟨b,a⟩,h3⟩;exact⟨a,b,h3⟩
  ·rintro⟨a,b,h3⟩;exact⟨⟨b,a⟩,h3⟩
theorem I9 {s:cH}(h0:s.many=0)(i:Nat):s.is i=false:=by
 unfold cH.many at h0;rw[Am]at h0;unfold cH.is;rw[zQ];cases hi:s.tk[i]? with
 | none=>rfl
 | some b=>
  cases b
  ·rfl
  ·exact absurd (zG hi) h0
theorem dI.cK (h:dI c ss):dI c (Go.Ar.cK ss):=⟨h.ok,λs a=>h.tk s (zL.1 a).1,h.uK.filter _⟩
theorem I5 (h:dI c ss){y:Int}:Tk c (cK ss) y↔Tk c ss y:=by
 rw[Ug h.cK,Ug h];constructor
 ·rintro⟨k,s,i,hs,hi,rfl,hb⟩;obtain⟨l,a⟩:=zP (zL.1 (zG hs)).1;exact⟨l,s,i,a,hi,rfl,hb⟩
 ·rintro⟨k,s,i,hs,hi,rfl,hb⟩;have:s∈cK ss:=zL.2 ⟨zG hs,by
   have:s.many≠0:=λb=>by rw[I9 b i]at hb;cases hb
   simpa using this⟩
  obtain⟨l,a⟩:=zP this;exact⟨l,s,i,a,hi,rfl,hb⟩
theorem BO {x:Nat}:x∈QX ss↔∃s∈ss,s.many=0/\s.st=x:=by
 unfold QX;simp only[zD,zL,zU,and_assoc]
theorem Ev (h:dI c ss){p:Nat}:wa c (cK ss) p↔wa c ss p/\¬∃x∈QX ss,x<=p/\p<x+c.aG:=by
 constructor
 ·rintro⟨s,hs,h1,h2⟩;have d:=zL.1 hs;refine⟨⟨s,d.1,h1,h2⟩,?_⟩;rintro⟨x,hx,h3,h4⟩;obtain⟨t,g,a,rfl⟩:=BO.1 hx;obtain⟨i,hi⟩:=zP d.1;obtain⟨j,b⟩:=zP g;have e:=h.ya hi b h1 h2 h3 h4;subst e;rw[hi]at b;cases b;simp[a]at d
 ·rintro⟨⟨s,hs,h1,h2⟩,hn⟩;refine⟨s,zL.2 ⟨hs,?_⟩,h1,h2⟩;have:s.many≠0:=λa=>hn ⟨s.st,BO.2 ⟨s,hs,a,rfl⟩,h1,h2⟩;simpa using this
theorem δ (h:dI c ss):(QX ss).Pairwise λa b=>a+c.aG<=b:=by
 unfold QX;rw[q9];exact h.uK.filter _
theorem V1 {st:Nat}{t:cH}:t∈iv c ss st↔t=⟨st,List.replicate c.n false⟩\/t∈ss:=by
 unfold iv;rw[zK,zW];have:t∈ss↔t∈ss.takeWhile (λs=>decide (s.st<st))\/t∈ss.dropWhile (λs=>decide (s.st<st)):=by
  rw[←zK,List.takeWhile_append_dropWhile]
 rw[this];constructor
 ·rintro(h|h|h)
  ·exact .inr (.inl h)
  ·exact .inl h
  ·exact .inr (.inr h)
 ·rintro(h|h|h)
  ·exact .inr (.inl h)
  ·exact .inl h
  ·exact .inr (.inr h)
theorem Ls (h:dI c ss){st:Nat}(hd:∀s∈ss,s.st+c.aG<=st\/st+c.aG<=s.st):dI c (iv c ss st):=by
 refine⟨h.ok,λs m=>?_,?_⟩
 ·rcases V1.1 m with rfl|m
  ·simp
  ·exact h.tk s m
 ·have g:=GI h.qT st;have u:=h.pg;rw[xN];refine qx.2 ⟨h.uK.sublist (Co _ _),tC.2 ⟨λb d=>?_,h.uK.sublist (List.drop_sublist _ _)⟩,λa r b d=>?_⟩
  ·obtain⟨i,hi⟩:=zP d;rw[lg]at hi;have:=g.2 _ _ hi;rcases hd b (uC d)with h1|h1
   ·omega
   ·exact h1
  ·obtain⟨i,hi⟩:=zP r;rw[zm]at hi;split at hi
   ·rename_i hlt;rcases zW.1 d with rfl|d
    ·have:=(g.2 _ _ hi).2 hlt;rcases hd a (zG hi)with h1|h1
     ·exact h1
     ·omega
    ·obtain⟨j,p⟩:=zP d;rw[lg]at p;exact h.uY hi p O
   ·cases hi
theorem JQ (h:dI c ss){st:Nat}(hd:∀s∈ss,s.st+c.aG<=st\/st+c.aG<=s.st){y:Int}:Tk c (iv c ss st) y↔Tk c ss y:=by
 rw[Ug (Ls h hd),Ug h];constructor
 ·rintro⟨k,s,i,hs,hi,rfl,hb⟩;rcases V1.1 (zG hs)with rfl|hm
  ·have:(⟨st,List.replicate c.n false⟩:cH).is i=false:=I9 (by simp[cH.many,Ag]) i;rw[this]at hb;cases hb
  ·obtain⟨l,a⟩:=zP hm;exact⟨l,s,i,a,hi,rfl,hb⟩
 ·rintro⟨k,s,i,hs,hi,rfl,hb⟩;obtain⟨l,a⟩:=zP (V1.2 (.inr (zG hs)):s∈iv c ss st);exact⟨l,s,i,a,hi,rfl,hb⟩
theorem Wj8 {st:Nat}(hd:∀s∈ss,s.st+c.aG<=st\/st+c.aG<=s.st):oC c ss st=0:=by
 unfold oC;rw[zB];simp only[jV,zV,not_exists,not_and];intro s hs hlt;rcases hd s hs with h|h<;>omega
end Go.Ar
namespace Go.Ar
open Go.Bu (Zz Kg Zx qV VS dH take KU Vo Bounded)
def gf (st:List Nat)(p:Nat):Nat:=st.getD p 0
def AR.f (A:AR)(p:Nat):Nat:=gf A.st p
def mL (rs:List (Nat×Nat))(p:Nat):Prop:=∃r∈rs,r.1<=p/\p<r.1+r.2
theorem Jx {st:List Nat}{p:Nat}(h:gf st p≠0):p<st.length:=by
 apply Classical.byContradiction;intro hn;exact h (by unfold gf;rw[zQ,zX O];rfl)
theorem vn {st:List Nat}{a b v p:Nat}(hb:b<=st.length):gf (gE st a b v) p=if a<=p/\p<b then v else gf st p:=by
 unfold gf;rw[zQ,zQ,HX];by_cases hp:p<st.length
 ·rw[cW hp];simp only[ze,qX]
 ·rw[zX O,zB O];rfl
theorem U0 {n a m:Nat}:Zz n (a:Int) (m:Int)=true↔1<=m/\a+m<=n:=by
 simp only[Zz,zF,zV];omega
theorem WhJ {st:List Nat}{a m:Nat}{fr:List Nat}(hl:a+m<=st.length):vq st a m fr=true↔∀p,a<=p->p<a+m->gf st p∈fr:=by
 unfold vq;rw[ko];constructor
 ·intro h p h1 h2;have b:p<st.length:=by omega
  have:st[p]∈(st.drop a).take m:=by
   refine zG (i:=p-a) ?_;rw[zm,zC O,lg,show a+(p-a)=p by omega,cW b]
  have:=h _ this;unfold gf;rw[zQ,cW b];simpa using this
 ·intro h x hx;obtain⟨i,hi⟩:=zP hx;rw[zm]at hi;split at hi
  ·rename_i hlt;rw[lg]at hi;have:=h (a+i) O O;unfold gf at this;rw[zQ,hi]at this;simpa using this
  ·cases hi
theorem EV {st:List Nat}{a m v:Nat}{fr:List Nat}(h1:1<=m)(hl:a+m<=st.length)(h:∀p,a<=p->p<a+m->gf st p∈fr):UP st (a:Int) (m:Int) v fr=gE st a (a+m) v:=by
 unfold UP oZ;rw[zC (U0.2 ⟨h1,hl⟩),dG,dG,(WhJ hl).2 h];rfl
structure PG (A:AR):Prop where
 len:A.st.length=A.n
 n1:32<=A.n
 n2:A.n<=1024
 n16:A.n%16=0
 le:∀p,A.f p<=3
 us:∀p,A.f p=1↔A.ow p≠0
 fr:∀p,A.S p=true↔2<=A.f p
 hp:∀p,A.f p=0↔A.f (p/16*16)=0
theorem PG.lt {A:AR}(h:PG A){p:Nat}(hp:A.f p≠0):p<A.n:=h.len▸Jx hp
theorem PG.jC {A:AR}(h:PG A):Bounded A.S A.n:=λp a=>h.lt (by have:=(h.fr p).1 a;omega)
theorem PG.kB {A:AR}(h:PG A){p q:Nat}(e:p/16=q/16):A.f p=0↔A.f q=0:=by rw[h.hp p,h.hp q,e]
theorem PG.same {A B:AR}(h:PG A)(e1:B.n=A.n)(e2:B.st=A.st)(e3:B.S=A.S)(e4:B.ow=A.ow):PG B:=by
 have a:∀p,B.f p=A.f p:=λp=>by unfold AR.f;rw[e2]
 exact⟨by rw[e2,e1];exact h.len,by rw[e1];exact h.n1,by rw[e1];exact h.n2,by rw[e1];exact h.n16,λp=>by rw[a];exact h.le p,λp=>by rw[a,e4];exact h.us p,λp=>by rw[a,e3];exact h.fr p,λp=>by rw[a,a];exact h.hp p⟩
theorem Jm {ow:Nat->Nat}{a m no:Nat}(h1:1<=m)(h2:a+m<=1024)(p:Nat):jK ow a m no p=if a<=p/\p<a+m then no else ow p:=by
 unfold jK;rw[zC (U0.2 ⟨h1,h2⟩)]
theorem Eu {n:Nat}{S:Nat->Bool}{a m:Nat}(h1:1<=m)(h2:a+m<=n)(h:∀p,a<=p->p<a+m->S p=false):Kg n S (a:Int) (m:Int)=dH S a (a+m):=by
 unfold Kg;rw[U0.2 ⟨h1,h2⟩,dG,dG,VS.2 h];rfl
structure Out (A B:AR) (a b:Nat):Prop where
 n:B.n=A.n
 len:B.st.length=A.st.length
 f:∀p,¬(a<=p/\p<b)->B.f p=A.f p
 ow:∀p,¬(a<=p/\p<b)->B.ow p=A.ow p
 S:∀p,¬(a<=p/\p<b)->B.S p=A.S p
theorem Out.pg {A B:AR}{a b v:Nat}(o:Out A B a b)(h:PG A)(hv:v<=3)(hf:∀p,a<=p->p<b->B.f p=v)(hw:∀p,a<=p->p<b->(v=1↔B.ow p≠0))(hS:∀p,a<=p->p<b->(B.S p=true↔2<=v))
 (hz:∀p,B.f p=0↔B.f (p/16*16)=0):PG B:=by
 refine⟨by rw[o.len,o.n];exact h.len,by rw[o.n];exact h.n1,by rw[o.n];exact h.n2,by rw[o.n];exact h.n16,λp=>?_,λp=>?_,λp=>?_,hz⟩
 ·by_cases hp:a<=p/\p<b
  ·rw[hf p hp.1 hp.2];exact hv
  ·rw[o.f p hp];exact h.le p
 ·by_cases hp:a<=p/\p<b
  ·rw[hf p hp.1 hp.2];exact hw p hp.1 hp.2
  ·rw[o.f p hp,o.ow p hp];exact h.us p
 ·by_cases hp:a<=p/\p<b
  ·rw[hf p hp.1 hp.2];exact hS p hp.1 hp.2
  ·rw[o.f p hp,o.S p hp];exact h.fr p
theorem Out.zero {A B:AR}{a b v:Nat}(o:Out A B a b)(h:PG A)(hf:∀p,a<=p->p<b->B.f p=v)(hv:v≠0)(hA:∀p,a<=p->p<b->A.f p≠0):∀p,B.f p=0↔A.f p=0:=by
 intro p;by_cases hp:a<=p/\p<b
 ·rw[hf p hp.1 hp.2];exact⟨λe=>(hv e).elim,λe=>(hA p hp.1 hp.2 e).elim⟩
 ·rw[o.f p hp]
theorem J7 {A B:AR}(h:PG A)(e:∀p,B.f p=0↔A.f p=0):∀p,B.f p=0↔B.f (p/16*16)=0:=λp=>by rw[e,e];exact h.hp p
theorem IK {A:AR}(h:PG A){a m:Nat}(h1:1<=m)(hu:∀p,a<=p->p<a+m->A.f p=1):Out A (Ul A (a,m)) a (a+m)/\(∀p,a<=p->p<a+m->(Ul A (a,m)).f p=2/\(Ul A (a,m)).ow p=0)/\PG (Ul A (a,m))/\∀p,(Ul A (a,m)).f p=0↔A.f p=0:=by
 have i:a+m<=A.n:=by have:=h.lt (p:=a+m-1) (by rw[hu _ O O];omega);omega
 have x:=h.n2;have e1:(Ul A (a,m)).st=gE A.st a (a+m) 2:=EV h1 (by rw[h.len];exact i) λp d b=>by
  have:=hu p d b;unfold AR.f at this;rw[this];simp
 have e2:(Ul A (a,m)).S=dH A.S a (a+m):=Eu h1 i λp d b=>by
  apply nV.2;intro hS;have:=(h.fr p).1 hS;have:=hu p d b;omega
 have r:∀p,(Ul A (a,m)).ow p=if a<=p/\p<a+m then 0 else A.ow p:=λp=>Jm h1 O p
 have w:∀p,(Ul A (a,m)).f p=if a<=p/\p<a+m then 2 else A.f p:=λp=>by unfold AR.f;rw[e1,vn (by rw[h.len];exact i)]
 have o:Out A (Ul A (a,m)) a (a+m):=⟨rfl,by rw[e1,Vt],λp g=>by rw[w,zB g],λp g=>by rw[r,zB g],λp g=>by
  rw[e2];unfold dH;have:(decide (a<=p)&&decide (p<a+m))=false:=by simp;omega
  rw[this,Bool.or_false]⟩
 have j:∀p,a<=p->p<a+m->(Ul A (a,m)).f p=2:=λp d b=>by rw[w,zC ⟨d,b⟩]
 have s:∀p,a<=p->p<a+m->(Ul A (a,m)).ow p=0:=λp d b=>by rw[r,zC ⟨d,b⟩]
 have u:=o.zero h j O λp d b=>by rw[hu p d b];omega
 refine⟨o,λp d b=>⟨j p d b,s p d b⟩,o.pg h O j (λp d b=>by rw[s p d b];simp) (λp d b=>?_) (J7 h u),u⟩;rw[e2,KU];exact⟨λ_=>zE _,λ_=>.inr ⟨d,b⟩⟩
structure sK (A B:AR) (rs:List (Nat×Nat)):Prop where
 pg:PG B
 n:B.n=A.n
 tb:B.tb=A.tb
 room:B.room=A.room
 cR:B.cR=A.cR
 cG:B.cG=A.cG
 runs:B.runs=A.runs
 i:∀p,mL rs p->B.f p=2/\B.ow p=0
 o:∀p,¬mL rs p->B.f p=A.f p/\B.ow p=A.ow p
 z:∀p,B.f p=0↔A.f p=0
theorem I0:∀(rs:List (Nat×Nat)) {A:AR},PG A->(∀r∈rs,1<=r.2)->(∀r∈rs,∀p,r.1<=p->p<r.1+r.2->A.f p=1)->rs.Pairwise (λa b=>a.1+a.2<=b.1\/b.1+b.2<=a.1)->sK A (UJ A rs) rs
 | [],A,h,_,_,_=>⟨h,rfl,rfl,rfl,rfl,rfl,rfl,λp ⟨r,hr,_⟩=>by simp at hr,λp _=>⟨rfl,rfl⟩,λp=>Iff.rfl⟩
 | (a,m)::rs,A,h,hp,hu,hd=>by
  have hd':=tC.1 hd;obtain⟨o,hi,x,B⟩:=IK h (hp _ (mY ..)) (hu _ (mY ..));have d:=I0 rs x (λr hr=>hp r (mu _ hr)) (λr hr p u s=>by
   have:=hd'.1 r hr;simp only at this;rw[o.f p O];exact hu r (mu _ hr) p u s) hd'.2
  have e:UJ A ((a,m)::rs)=UJ (Ul A (a,m)) rs:=rfl;rw[e];refine⟨d.pg,d.n,d.tb,d.room,d.cR,d.cG,d.runs,λp g=>?_,λp g=>?_,λp=>(d.z p).trans (B p)⟩
  ·by_cases j:mL rs p
   ·exact d.i p j
   ·have:=d.o p j;obtain⟨r,hr,u,s⟩:=g;rcases zW.1 hr with rfl|hr
    ·rw[this.1,this.2];exact hi p u s
    ·exact(j ⟨r,hr,u,s⟩).elim
  ·have j:¬mL rs p:=λ⟨r,hr,w⟩=>g ⟨r,mu _ hr,w⟩;have y:¬(a<=p/\p<a+m):=λw=>g ⟨(a,m),mY ..,w⟩;have:=d.o p j;exact⟨this.1.trans (o.f p y),this.2.trans (o.ow p y)⟩
theorem DP {A:AR}(h:PG A){a m no:Nat}(h1:1<=m)(hn:no≠0)(hS:∀p,a<=p->p<a+m->A.S p=true):Out A (dV A a m no) a (a+m)/\(∀p,a<=p->p<a+m->(dV A a m no).f p=1/\(dV A a m no).ow p=no)/\PG (dV A a m no)/\∀p,(dV A a m no).f p=0↔A.f p=0:=by
 have i:∀p,a<=p->p<a+m->2<=A.f p:=λp d b=>(h.fr p).1 (hS p d b);have x:a+m<=A.n:=by have:=h.lt (p:=a+m-1) (by have:=i (a+m-1) O O;omega);omega
 have B:=h.n2;have e1:(dV A a m no).st=gE A.st a (a+m) 1:=EV h1 (by rw[h.len];exact x) λp d b=>by
  have z:=i p d b;have y:=h.le p;unfold AR.f at z y;have:gf A.st p=2\/gf A.st p=3:=by omega
  simpa using this
 have r:∀p,(dV A a m no).ow p=if a<=p/\p<a+m then no else A.ow p:=λp=>Jm h1 O p
 have w:∀p,(dV A a m no).f p=if a<=p/\p<a+m then 1 else A.f p:=λp=>by unfold AR.f;rw[e1,vn (by rw[h.len];exact x)]
 have o:Out A (dV A a m no) a (a+m):=⟨rfl,by rw[e1,Vt],λp g=>by rw[w,zB g],λp g=>by rw[r,zB g],λp g=>by
  show take A.S a (a+m) p=A.S p;unfold take;have:(decide (a<=p)&&decide (p<a+m))=false:=by simp;omega
  rw[this];simp⟩
 have j:∀p,a<=p->p<a+m->(dV A a m no).f p=1:=λp d b=>by rw[w,zC ⟨d,b⟩]
 have s:∀p,a<=p->p<a+m->(dV A a m no).ow p=no:=λp d b=>by rw[r,zC ⟨d,b⟩]
 have u:=o.zero h j O λp d b=>by have:=i p d b;omega
 refine⟨o,λp d b=>⟨j p d b,s p d b⟩,o.pg h O j (λp d b=>by rw[s p d b];simp[hn]) (λp d b=>?_) (J7 h u),u⟩;show take A.S a (a+m) p=true↔_;rw[Vo];constructor
 ·rintro⟨_,hx⟩;exact(hx ⟨d,b⟩).elim
 ·intro hx;omega
theorem Jb:∀(m:Nat) {st:List Nat} {a:Nat},(a+m)*16<=st.length->(∀p,a*16<=p->p<(a+m)*16->gf st p=0)->(Ho st a m).length=st.length/\∀p,gf (Ho st a m) p=if a*16<=p/\p<(a+m)*16 then 3 else gf st p
 | 0,st,a,hl,hz=>⟨rfl,λp=>by rw[zB O];rfl⟩
 | m+1,st,a,hl,hz=>by
  obtain⟨i1,i2⟩:=Jb m (st:=st) (a:=a) O λp d g=>hz p d O;rw[Lj];have b:gf (Ho st a m) (16*(a+m))=0:=by rw[i2,zB O];exact hz _ O O
  have ok:kG (Ho st a m) ((a+m:Nat):Int)=0:=by
   unfold kG;rw[JS (by rw[i1];omega),zC rfl,dG];unfold gf at b;rw[zC b]
  have e:jh (Ho st a m) ((a+m:Nat):Int)=gE (Ho st a m) (16*(a+m)) (16*(a+m)+16) 3:=by
   unfold jh;rw[zC ok,dG]
  rw[e];refine⟨by rw[Vt,i1],λp=>?_⟩;rw[vn (by rw[i1];omega),i2];by_cases h1:16*(a+m)<=p/\p<16*(a+m)+16
  ·rw[zC h1,zC O]
  ·rw[zB h1];by_cases h2:a*16<=p/\p<(a+m)*16
   ·rw[zC h2,zC O]
   ·rw[zB h2,zB O]
theorem CI {sp:Sp}{s m:Nat}(h:fE sp (s:Int) (m:Int)=0):1<=m/\s+m<=sp.st.length/\∀p,s<=p->p<s+m->gf sp.st p=0:=by
 unfold fE at h;split at h
 ·rename_i hr;obtain⟨d,b⟩:=U0.1 hr;rw[dG,dG]at h;split at h
  ·cases h
  ·rename_i hn;refine⟨d,b,λp r j=>?_⟩;have a:p<sp.st.length:=by omega
   have g:sp.st[p]∈(sp.st.drop s).take m:=by
    refine zG (i:=p-s) ?_;rw[zm,zC O,lg,show s+(p-s)=p by omega,cW a]
   simp only[jV,not_exists,not_and]at hn;have:=hn _ g;unfold gf;rw[zQ,cW a];simpa using this
 ·cases h
structure Grown (A B:AR) (sp sp':Sp) (s size:Nat):Prop where
 pg:PG B
 n:B.n=A.n
 tb:B.tb=A.tb
 room:B.room=A.room
 cR:B.cR=A.cR
 cG:B.cG=A.cG
 runs:B.runs=A.runs
 ow:B.ow=A.ow
 S9:s%16=0
 s1:16<=s
 sl:s+size<=A.n
 un:∀p,s<=p->p<s+size->gf sp.st p=0
 i:∀p,s<=p->p<s+size->B.f p=3/\gf sp'.st p=1
 o:∀p,¬(s<=p/\p<s+size)->B.f p=A.f p/\gf sp'.st p=gf sp.st p
 w:∀x,¬(s*32<=x/\x<(s+size)*32)->sp'.wd x=sp.wd x
 l:sp'.st.length=sp.st.length
 pk:sp'.pk=sp.pk
theorem Hq {sp:Sp}{size s:Nat}(h1:1<=size)(h:dB sp size=some s):fE sp (s:Int) (size:Int)=0/\s≠0/\(∃j,s=j*size)/\∀j,j*size<s->1<=j->fE sp ((j*size:Nat):Int) (size:Int)≠0:=by
 unfold dB at h;obtain⟨u,us,vs,w,y⟩:=List.find?_eq_some_iff_append.1 h;simp only[zF,bne_iff_ne,ne_eq,zU]at u;have g:s∈(List.range (sp.st.length/size)).map (· * size):=by rw[w];simp
 obtain⟨j,x,rfl⟩:=zD.1 g;rw[zg]at x;refine⟨u.2,u.1,⟨j,rfl⟩,λi hi A=>?_⟩;have z:i<j:=Nat.lt_of_mul_lt_mul_right hi;have:i*size∈us:=by
  have m:i*size∈(List.range (sp.st.length/size)).map (· * size):=zD.2 ⟨i,zg.2 O,rfl⟩;have d:((List.range (sp.st.length/size)).map (· * size)).Pairwise (· < ·):=by
   rw[q9];exact List.pairwise_lt_range.imp λ{a b} r=>Nat.mul_lt_mul_of_pos_right r O
  rw[w]at m d;rcases zK.1 m with h|h
  ·exact h
  ·rcases zW.1 h with h|h
   ·have:=yp O h;omega
   ·have:=(tC.1 (qx.1 d).2.1).1 _ h;omega
 have:=y _ this;have p:i*size≠0:=by
  have:=Nat.mul_pos (show 0<i by omega) (show 0<size by omega);omega
 simpa[p]using this
theorem FW {sp:Sp}{s m:Nat}(h:fE sp (s:Int) (m:Int)=0):(fZ sp (s:Int) (m:Int)).st.length=sp.st.length/\(∀p,gf (fZ sp (s:Int) (m:Int)).st p=if s<=p/\p<s+m then 1 else gf sp.st p)/\(∀x,¬(s*32<=x/\x<(s+m)*32)->(fZ sp (s:Int) (m:Int)).wd x=sp.wd x)/\(fZ sp (s:Int) (m:Int)).pk=sp.pk:=by
 obtain⟨d,a,_⟩:=CI h;unfold fZ;rw[zC h,dG,dG];refine⟨by simp[Sp.set,Vt],λp=>vn a,λx b=>?_,rfl⟩;show(if s*32<=x/\x<(s+m)*32 then 0 else sp.wd x)=_
 rw[zB b]
theorem Ν {A:AR}{sp:Sp}(h:PG A)(hl:sp.st.length=A.n)(hz:∀p,gf sp.st p=0->A.f p=0){size:Nat}(hs:size=16\/size=32\/size=64){B:AR}{sp':Sp}(hg:Hm A sp size=some (B,sp')) :
 ∃s,dB sp size=some s/\Grown A B sp sp' s size:=by
 unfold Hm at hg;split at hg
 ·cases hg
 ·rename_i s hgs;cases hg;obtain⟨D,E,⟨j,K⟩,_⟩:=Hq O hgs;obtain⟨H,x,w⟩:=CI D;have r:s%16=0:=by rcases hs with rfl|rfl|rfl<;>omega
  have y:size%16=0:=by rcases hs with rfl|rfl|rfl<;>omega
  have e1:s/16*16=s:=by omega
  have e2:(s/16+size/16)*16=s+size:=by omega
  have g:∀p,s<=p->p<s+size->A.f p=0:=λp d b=>hz p (w p d b);obtain⟨G,m⟩:=Jb (size/16) (st:=A.st) (a:=s/16) (by rw[e2,h.len,←hl];exact x) (by rw[e1,e2];exact g);rw[e1,e2]at m;obtain⟨F,C,J,b4⟩:=FW D;have i:s+size<=A.n:=by rw[←hl];exact x
  have z:Kg A.n A.S (s:Int) (size:Int)=dH A.S s (s+size):=Eu H i λp d b=>by
   apply nV.2;intro hS;have:=(h.fr p).1 hS;have:=g p d b;omega
  refine⟨s,hgs,⟨?_,rfl,rfl,rfl,rfl,rfl,rfl,rfl,r,O,i,w,λp d b=>⟨?_,?_⟩,λp hp=>⟨?_,?_⟩,J,F,b4⟩⟩
  ·have o:Out A {A with st:=Ho A.st (s/16) (size/16),S:=Kg A.n A.S (s:Int) (size:Int)} s (s+size):=⟨rfl,G,λp hp=>by show gf _ p=_;rw[m,zB hp];rfl,λp hp=>rfl,λp hp=>by
    show Kg A.n A.S (s:Int) (size:Int) p=A.S p;rw[z];unfold dH;have:(decide (s<=p)&&decide (p<s+size))=false:=by simp;omega
    rw[this,Bool.or_false]⟩
   have u:∀p,s<=p->p<s+size->AR.f {A with st:=Ho A.st (s/16) (size/16),S:=Kg A.n A.S (s:Int) (size:Int)} p=3:=λp d b=>by show gf _ p=3;rw[m,zC ⟨d,b⟩]
   refine o.pg h (zE _) u (λp d b=>?_) (λp d b=>?_) λp=>?_
   ·have E:=g p d b;have:=h.us p;constructor
    ·intro hx;omega
    ·intro hx;have:=this.2 hx;omega
   ·show Kg A.n A.S (s:Int) (size:Int) p=true↔_;rw[z,KU];exact⟨λ_=>O,λ_=>.inr ⟨d,b⟩⟩
   ·by_cases hp:s<=p/\p<s+size
    ·rw[u p hp.1 hp.2,u (p/16*16) O O]
    ·rw[o.f p hp,o.f (p/16*16) O];exact h.hp p
  ·show gf (Ho A.st (s/16) (size/16)) p=3;rw[m,zC ⟨d,b⟩]
  ·rw[C,zC ⟨d,b⟩]
  ·show gf (Ho A.st (s/16) (size/16)) p=A.f p;rw[m,zB hp];rfl
  ·rw[C,zB hp]
end Go.Ar
namespace Go.Ar
open Go.Bu (Zz Kg Zx qV VS dH take KU Vo Bounded full can YT U9 Z1 Ks Qd WV Kq QH)
def Cl (A:AR)(k:Nat)(c:cA)(ss:List cH):Prop:=A.tb[k]?=some c/\A.cG[k]?=some ss
def fU (A:AR)(k:Nat)(x:Int):Prop:=∃c ss,Cl A k c ss/\Tk c ss x
def ic (A:AR)(k:Nat)(x:Int):Prop:=∃t,A.cR[k]?=some t/\x∈t.bs.flatten
structure GA (A:AR):Prop where
 pg:PG A
 tb:A.tb.length<=40
 lc:A.cG.length=A.tb.length
 lt:A.cR.length=A.tb.length
 cG:∀k c ss,Cl A k c ss->dI c ss
 one:∀k c ss,Cl A k c ss->∀s∈ss,s.st/16=(s.st+c.aG-1)/16
 ow:∀k c ss,Cl A k c ss->∀p,A.ow p=k+1↔wa c ss p
 j3:∀p,A.ow p=41↔mL A.runs p
 sY:∀p,A.ow p=41\/A.ow p<=A.tb.length
 gU:∀r∈A.runs,1<=r.2
 kP:A.runs.Pairwise λa b=>a.1+a.2<=b.1\/b.1+b.2<=a.1
 qA:∀(k:Nat) (t:gP),A.cR[k]?=some t->t.bs.flatten.Nodup
 mF:∀(k:Nat) c ss (t:gP),Cl A k c ss->A.cR[k]?=some t->∀x∈t.bs.flatten,Tk c ss x
 pE:∀(k:Nat) (c:cA) (t:gP),A.tb[k]?=some c->A.cR[k]?=some t->∀xs∈t.bs,xs.length=c.batch
structure Kp (A B:AR):Prop where
 n:B.n=A.n
 tb:B.tb=A.tb
 room:B.room=A.room
 z:∀p,B.f p=0↔A.f p=0
 t:∀p,B.f p=3->A.f p=3
theorem Kp.refl (A:AR):Kp A A:=⟨rfl,rfl,rfl,λ_=>Iff.rfl,λ_=>id⟩
theorem Kp.trans {A B C:AR}(h:Kp A B)(k:Kp B C):Kp A C:=⟨k.n.trans h.n,k.tb.trans h.tb,k.room.trans h.room,λp=>(k.z p).trans (h.z p),λp a=>h.t p (k.t p a)⟩
theorem Kp.aG {A B:AR}(e1:B.n=A.n)(e2:B.tb=A.tb)(e3:B.room=A.room)(e4:B.st=A.st):Kp A B:=⟨e1,e2,e3,λp=>by unfold AR.f;rw[e4],λp=>by unfold AR.f;rw[e4];exact id⟩
variable {A:AR}{k:Nat}{c:cA}{ss:List cH}
theorem Cl.lt (h:Cl A k c ss):k<A.tb.length:=(cX.1 h.1).1
theorem Cl.eq {c':cA}{ss':List cH}(h:Cl A k c ss)(h':Cl A k c' ss'):c=c'/\ss=ss':=⟨Option.some.inj (h.1.symm.trans h'.1),Option.some.inj (h.2.symm.trans h'.2)⟩
theorem GA.cl (h:GA A){k:Nat}(hk:k<A.tb.length):∃c ss t,Cl A k c ss/\A.cR[k]?=some t:=by
 have a:=h.lc;have b:=h.lt;exact⟨A.tb[k],A.cG[k],A.cR[k],⟨by simp,by simp⟩,by simp⟩
theorem GA.used (h:GA A)(hk:Cl A k c ss){s:cH}(hs:s∈ss){p:Nat}(h1:s.st<=p)(h2:p<s.st+c.aG):A.f p=1/\A.ow p=k+1:=by
 have:=(h.ow k c ss hk p).2 ⟨s,hs,h1,h2⟩;exact⟨(h.pg.us p).2 O,this⟩
theorem GA.jH (h:GA A){r:Nat×Nat}(hr:r∈A.runs){p:Nat}(h1:r.1<=p)(h2:p<r.1+r.2):A.f p=1/\A.ow p=41:=by
 have:=(h.j3 p).2 ⟨r,hr,h1,h2⟩;exact⟨(h.pg.us p).2 O,this⟩
theorem GA.gZ (h:GA A){r s:Nat×Nat}(hr:r∈A.runs)(hs:s∈A.runs){x:Nat}(h1:r.1<=x)(h2:x<r.1+r.2)(h3:s.1<=x)(h4:x<s.1+s.2):r=s:=by
 obtain⟨i,hi⟩:=zP hr;obtain⟨j,d⟩:=zP hs;obtain⟨b,rfl⟩:=cX.1 hi;obtain⟨a,rfl⟩:=cX.1 d;rcases qB i j with hl|hl|hl
 ·have:=kS.1 h.kP i j b a hl;omega
 ·subst hl;rfl
 ·have:=kS.1 h.kP j i a b hl;omega
theorem GA.fit (h:GA A){r:Nat×Nat}(hr:r∈A.runs):r.1+r.2<=A.n:=by
 have:=h.gU r hr;have:=h.pg.lt (p:=r.1+r.2-1) (by rw[(h.jH hr (p:=r.1+r.2-1) O O).1];omega);omega
theorem GA.pK (h:GA A):iQ A:=by
 have u:=h.pg.n2;refine⟨λr b s p x g d i j=>h.gZ b p g d i j,λx m a=>?_,λx m w a=>?_,λr b=>?_⟩
 ·obtain⟨r,b,g,d⟩:=(h.j3 x).1 a;unfold tH;rw[CA];exact⟨r,b,by simp[g,d]⟩
 ·rcases h.sY x with e|e
  ·exact(a e).elim
  ·exact e
 ·have:=h.fit b;omega
theorem UL (hk:Cl A k c ss){ss':List cH}{j:Nat}{d:cA}{tt:List cH}(h:Cl {A with cG:=A.cG.set k ss'} j d tt):(j=k/\d=c/\tt=ss')\/(j≠k/\Cl A j d tt):=by
 obtain⟨b,a⟩:=h;by_cases hjk:j=k
 ·subst hjk;have g:=(cX.1 hk.2).1;simp only[zO g]at a;exact .inl ⟨rfl,Option.some.inj (b.symm.trans hk.1),(Option.some.inj a).symm⟩
 ·simp only[zh (Ne.symm hjk)]at a;exact .inr ⟨hjk,b,a⟩
theorem Ht (hk:Cl A k c ss)(ss':List cH):Cl {A with cG:=A.cG.set k ss'} k c ss':=⟨hk.1,zO (cX.1 hk.2).1⟩
theorem OI {ss':List cH}{j:Nat}{d:cA}{tt:List cH}(hjk:j≠k)(h:Cl A j d tt):Cl {A with cG:=A.cG.set k ss'} j d tt:=⟨h.1,(zh (Ne.symm hjk)).trans h.2⟩
theorem GA.lE (h:GA A)(hk:Cl A k c ss){ss':List cH}(hC:dI c ss')(hst:ss'.map (·.st)=ss.map (·.st))(ht:∀t,A.cR[k]?=some t->∀x∈t.bs.flatten,Tk c ss' x):GA {A with cG:=A.cG.set k ss'}:=by
 refine⟨h.pg.same rfl rfl rfl rfl,h.tb,by simp[h.lc],h.lt,λj d b a=>?_,λj d b a s i=>?_,λj d b a p=>?_,h.j3,h.sY,h.gU,h.kP,h.qA,λj d b t a g=>?_,h.pE⟩
 ·rcases UL hk a with⟨rfl,rfl,rfl⟩|⟨hne,a⟩
  ·exact hC
  ·exact h.cG j d b a
 ·rcases UL hk a with⟨rfl,rfl,rfl⟩|⟨hne,a⟩
  ·have:s.st∈ss.map (·.st):=by rw[←hst];exact zD.2 ⟨s,i,rfl⟩
   obtain⟨t,ht,e⟩:=zD.1 this;rw[←e];exact h.one _ _ _ hk t ht
  ·exact h.one j d b a s i
 ·rcases UL hk a with⟨rfl,rfl,rfl⟩|⟨hne,a⟩
  ·rw[ME hst];exact h.ow _ _ _ hk p
  ·exact h.ow j d b a p
 ·rcases UL hk a with⟨rfl,rfl,rfl⟩|⟨hne,a⟩
  ·exact ht t g
  ·exact h.mF j d b t a g
theorem AB (hk:Cl A k c ss){ss':List cH}{j:Nat}{x:Int}:fU {A with cG:=A.cG.set k ss'} j x↔(j=k/\Tk c ss' x)\/(j≠k/\fU A j x):=by
 constructor
 ·rintro⟨d,tt,hj,hx⟩;rcases UL hk hj with⟨rfl,rfl,rfl⟩|⟨hne,hj⟩
  ·exact .inl ⟨rfl,hx⟩
  ·exact .inr ⟨hne,d,tt,hj,hx⟩
 ·rintro(⟨rfl,hx⟩|⟨hne,d,tt,hj,hx⟩)
  ·exact⟨c,ss',Ht hk ss',hx⟩
  ·exact⟨d,tt,OI hne hj,hx⟩
theorem VL (hk:Cl A k c ss){x:Int}:fU A k x↔Tk c ss x:=by
 constructor
 ·rintro⟨d,tt,hj,hx⟩;obtain⟨rfl,rfl⟩:=hk.eq hj;exact hx
 ·intro hx;exact⟨c,ss,hk,hx⟩
def swp (A:AR)(k:Nat)(c:cA)(ss:List cH):AR:=UJ {A with cG:=A.cG.set k (cK ss)} ((QX ss).map λs=>(s,c.aG))
theorem BS {p:Nat}:mL ((QX ss).map λs=>(s,c.aG)) p↔∃x∈QX ss,x<=p/\p<x+c.aG:=by
 unfold mL;simp only[zD];constructor
 ·rintro⟨_,⟨x,hx,rfl⟩,h⟩;exact⟨x,hx,h⟩
 ·rintro⟨x,hx,h⟩;exact⟨_,⟨x,hx,rfl⟩,h⟩
theorem GA.j9 (h:GA A)(hk:Cl A k c ss){x:Nat}(hx:x∈QX ss){p:Nat}(h1:x<=p)(h2:p<x+c.aG):A.f p=1/\A.ow p=k+1:=by
 obtain⟨s,a,_,rfl⟩:=BO.1 hx;exact h.used hk a h1 h2
theorem GA.rK (h:GA A)(hk:Cl A k c ss):sK {A with cG:=A.cG.set k (cK ss)} (swp A k c ss) ((QX ss).map λs=>(s,c.aG)):=by
 have i:=h.cG k c ss hk;refine I0 _ (h.pg.same rfl rfl rfl rfl) (λr g=>?_) (λr g p u j=>?_) ?_
 ·obtain⟨x,_,rfl⟩:=zD.1 g;exact i.pg
 ·obtain⟨x,m,rfl⟩:=zD.1 g;exact(h.j9 hk m u j).1
 ·rw[q9];exact(δ i).imp λ{a b} d=>.inl d
theorem GA.swp (h:GA A)(hk:Cl A k c ss):GA (Go.Ar.swp A k c ss):=by
 have b:=h.rK hk;have w:=h.cG k c ss hk;have z:=hk.lt;have B:=h.tb;have cl:∀{j d m},Cl (Go.Ar.swp A k c ss) j d m->(j=k/\d=c/\m=cK ss)\/(j≠k/\Cl A j d m):=λ{j d m} a=>UL hk ⟨by rw[←b.tb];exact a.1,by rw[←b.cG];exact a.2⟩;have own:∀p,mL ((QX ss).map λs=>(s,c.aG)) p->A.ow p=k+1:=λp g=>by
  obtain⟨x,r,F,E⟩:=BS.1 g;exact(h.j9 hk r F E).2
 have cR:(Go.Ar.swp A k c ss).cR=A.cR:=b.cR;have tb:(Go.Ar.swp A k c ss).tb=A.tb:=b.tb;have runs:(Go.Ar.swp A k c ss).runs=A.runs:=b.runs;refine⟨b.pg,by rw[tb];exact h.tb,by rw[b.cG,tb];simp[h.lc],by rw[cR,tb];exact h.lt,λj d m a=>?_,λj d m a s y=>?_,λj d m a p=>?_,λp=>?_,λp=>?_,by rw[runs];exact h.gU,by rw[runs];exact h.kP,by rw[cR];exact h.qA,λj d m t a u=>?_,by rw[cR,tb];exact h.pE⟩
 ·rcases cl a with⟨rfl,rfl,rfl⟩|⟨hne,a⟩
  ·exact w.cK
  ·exact h.cG j d m a
 ·rcases cl a with⟨rfl,rfl,rfl⟩|⟨hne,a⟩
  ·exact h.one _ _ _ hk s (zL.1 y).1
  ·exact h.one j d m a s y
 ·by_cases g:mL ((QX ss).map λs=>(s,c.aG)) p
  ·rw[(b.i p g).2];have C:=own p g;rcases cl a with⟨rfl,rfl,rfl⟩|⟨hne,a⟩
   ·rw[Ev w];constructor
    ·intro e;omega
    ·rintro⟨_,hn⟩;exact(hn (BS.1 g)).elim
   ·rw[←h.ow j d m a p,C];omega
  ·rw[(b.o p g).2];rcases cl a with⟨rfl,rfl,rfl⟩|⟨hne,a⟩
   ·rw[Ev w];show A.ow p=_↔_;rw[h.ow _ _ _ hk p];exact⟨λr=>⟨r,λD=>g (BS.2 D)⟩,λr=>r.1⟩
   ·exact h.ow j d m a p
 ·rw[runs];by_cases g:mL ((QX ss).map λs=>(s,c.aG)) p
  ·rw[(b.i p g).2,←h.j3,own p g];omega
  ·rw[(b.o p g).2];exact h.j3 p
 ·rw[tb];by_cases g:mL ((QX ss).map λs=>(s,c.aG)) p
  ·rw[(b.i p g).2];omega
  ·rw[(b.o p g).2];exact h.sY p
 ·rw[cR]at u;rcases cl a with⟨rfl,rfl,rfl⟩|⟨hne,a⟩
  ·intro x r;exact(I5 w).2 (h.mF _ _ _ t hk u x r)
  ·exact h.mF j d m t a u
theorem GA.Ck (h:GA A)(hk:Cl A k c ss):Kp A (Go.Ar.swp A k c ss):=by
 have b:=h.rK hk;refine⟨b.n,b.tb,b.room,b.z,λp a=>?_⟩;by_cases hi:mL ((QX ss).map λs=>(s,c.aG)) p
 ·rw[(b.i p hi).1]at a;omega
 ·rw[(b.o p hi).1]at a;exact a
theorem GA.DT (h:GA A)(hk:Cl A k c ss){j:Nat}{x:Int}:fU (Go.Ar.swp A k c ss) j x↔fU A j x:=by
 have b:=h.rK hk;have a:=h.cG k c ss hk;have e:fU (Go.Ar.swp A k c ss) j x↔fU {A with cG:=A.cG.set k (cK ss)} j x:=by unfold fU Cl;rw[b.tb,b.cG]
 rw[e,AB hk,I5 a];constructor
 ·rintro(⟨rfl,hx⟩|⟨_,hx⟩)
  ·exact(VL hk).2 hx
  ·exact hx
 ·intro hx;by_cases hjk:j=k
  ·subst hjk;exact .inl ⟨rfl,(VL hk).1 hx⟩
  ·exact .inr ⟨hjk,hx⟩
theorem Gf {k:Int}:A.ck k=true↔∃j:Nat,k=j/\j<A.tb.length:=by
 unfold AR.ck;simp only[zF,zV];constructor
 ·intro h;exact⟨k.toNat,O,O⟩
 ·rintro⟨j,rfl,h⟩;omega
structure Ob (A B:AR):Prop where
 ga:GA B
 kp:Kp A B
 runs:B.runs=A.runs
theorem I7 (h:GA A)(k m:Int):Ob A (YS A k m)/\(YS A k m).cR=A.cR/\(Yz A k m).Nodup/\(Yz A k m≠[]->∃j:Nat,k=j/\j<A.tb.length)/\(∀x∈Yz A k m,¬fU A k.toNat (x:Int)) ∧
 ∀j y,fU (YS A k m) j y↔fU A j y\/(j=k.toNat/\∃x∈Yz A k m,y=((x:Nat):Int)):=by
 by_cases h0:Kc A k m=0
 ·have r:A.ck k=true:=by
   unfold Kc at h0;split at h0
   ·assumption
   ·cases h0
  obtain⟨j,rfl,s⟩:=Gf.1 r;obtain⟨c,ss,t,b,D⟩:=h.cl s;have u:V2 A (j:Int) m=KH c m.toNat ss:=by unfold V2;rw[dG,b.1,b.2]
  have g:YS A (j:Int) m = {A with cG:=A.cG.set j (KH c m.toNat ss).2}:=by unfold YS;rw[zC h0,u,dG]
  have d:Yz A (j:Int) m=(KH c m.toNat ss).1:=by unfold Yz;rw[zC h0,u]
  rw[g,d];obtain⟨s1,s2,E,B,z,w⟩:=Gx m.toNat (h.cG j c ss b);refine⟨⟨h.lE b s1 s2 λC p x a=>(w x).2 (.inr (h.mF j c ss C b p x a)),Kp.aG rfl rfl rfl rfl,rfl⟩,rfl,B,λ_=>⟨j,rfl,s⟩,λx a=>?_,λi y=>?_⟩
  ·rw[dG,VL b];exact z x a
  ·rw[AB b,w,dG];by_cases hij:i=j
   ·subst hij;rw[VL b];constructor
    ·rintro(⟨_,a|a⟩|⟨a,_⟩)
     ·exact .inr ⟨rfl,a⟩
     ·exact .inl a
     ·exact(a rfl).elim
    ·rintro(a|⟨_,a⟩)
     ·exact .inl ⟨rfl,.inr a⟩
     ·exact .inl ⟨rfl,.inl a⟩
   ·constructor
    ·rintro(⟨a,_⟩|⟨_,a⟩)
     ·exact(hij a).elim
     ·exact .inl a
    ·rintro(a|⟨a,_⟩)
     ·exact .inr ⟨hij,a⟩
     ·exact(hij a).elim
 ·have g:YS A k m=A:=by unfold YS;rw[zB h0]
  have d:Yz A k m=[]:=by unfold Yz;rw[zB h0]
  rw[g,d];exact⟨⟨h,Kp.refl A,rfl⟩,rfl,ua,by simp,by simp,by simp⟩
theorem Ik {xs:List Int}(h:kF c ss xs):iI c ss xs=0:=by
 unfold iI;have a:xs.any (λx=>(eB c ss x).isNone)=false:=by
  rw[mC];intro x hx;rw[h.1 x hx];simp
 have b:xs.any (λx=>eB c ss x==some false)=false:=by
  rw[mC];intro x hx;rw[h.1 x hx];simp
 rw[a,b,zI h.2];rfl
theorem GV (h:GA A)(hk:Cl A k c ss)(xs:List Int):Kw A (k:Int) xs=iI c ss xs:=by
 unfold Kw;rw[Gf.2 ⟨k,rfl,hk.lt⟩,zC rfl,dG,hk.1,hk.2]
theorem DH (h:GA A){k:Int}{xs:List Int}(h0:Kw A k xs=0):∃(j:Nat) (c:cA) (ss:List cH),k=j/\Cl A j c ss/\kF c ss xs:=by
 have a:A.ck k=true:=by
  unfold Kw at h0;split at h0
  ·assumption
  ·cases h0
 obtain⟨j,rfl,d⟩:=Gf.1 a;obtain⟨c,ss,t,b,g⟩:=h.cl d;rw[GV h b]at h0;exact⟨j,c,ss,rfl,b,IG h0⟩
theorem DB (h:GA A){k:Int}{xs:List Int}(hd:Kw A k xs=0->∀x∈xs,¬ic A k.toNat x):Ob A (ZY A k xs)/\(ZY A k xs).cR=A.cR ∧
 (Kw A k xs=0->∀j y,fU (ZY A k xs) j y↔fU A j y/\¬(j=k.toNat/\y∈xs))/\(Kw A k xs≠0->ZY A k xs=A):=by
 by_cases h0:Kw A k xs=0
 ·obtain⟨j,c,m,rfl,g,D⟩:=DH h h0;obtain⟨C,z,u⟩:=Jr xs (h.cG j c m g) D;have r:=h.lE g C z λt w x a=>(u x).2 ⟨h.mF j c m t g w x a,λE=>hd h0 x E ⟨t,by rw[dG];exact w,a⟩⟩;have d:=Ht g (xs.foldl (fH c) m);have s:ZY A (j:Int) xs=swp {A with cG:=A.cG.set j (xs.foldl (fH c) m)} j c (xs.foldl (fH c) m):=by
   unfold ZY swp;rw[zC h0,dG,g.1,g.2];simp only[nE]
  have b:=r.rK d;rw[s];refine⟨⟨r.swp d,(Kp.aG rfl rfl rfl rfl:Kp A {A with cG:=A.cG.set j (xs.foldl (fH c) m)}).trans (r.Ck d),b.runs⟩,b.cR,λ_ i y=>?_,λB=>(B h0).elim⟩;rw[r.DT d,AB g,u,dG];by_cases hij:i=j
  ·subst hij;rw[VL g];constructor
   ·rintro(⟨_,a,hy⟩|⟨a,_⟩)
    ·exact⟨a,λp=>hy p.2⟩
    ·exact(a rfl).elim
   ·rintro⟨a,hy⟩;exact .inl ⟨rfl,a,λp=>hy ⟨rfl,p⟩⟩
  ·constructor
   ·rintro(⟨a,_⟩|⟨_,a⟩)
    ·exact(hij a).elim
    ·exact⟨a,λp=>hij p.1⟩
   ·rintro⟨a,_⟩;exact .inr ⟨hij,a⟩
 ·have s:ZY A k xs=A:=by unfold ZY;rw[zB h0]
  rw[s];exact⟨⟨h,Kp.refl A,rfl⟩,rfl,λa=>(h0 a).elim,λ_=>rfl⟩
theorem GA.j2 (h:GA A){k:Nat}{t':gP}(h1:t'.bs.flatten.Nodup)(h2:∀x∈t'.bs.flatten,fU A k x)(h3:∀c,A.tb[k]?=some c->∀xs∈t'.bs,xs.length=c.batch):GA {A with cR:=A.cR.set k t'}:=by
 have get:∀{j t},(A.cR.set k t')[j]?=some t->(j=k/\t=t')\/(j≠k/\A.cR[j]?=some t):=by
  intro j t a;by_cases hjk:j=k
  ·subst hjk;have i:j<A.cR.length:=by have:=(cX.1 a).1;simpa using this
   rw[zO i]at a;exact .inl ⟨rfl,(Option.some.inj a).symm⟩
  ·rw[zh (Ne.symm hjk)]at a;exact .inr ⟨hjk,a⟩
 refine⟨h.pg.same rfl rfl rfl rfl,h.tb,h.lc,by simp[h.lt],h.cG,h.one,h.ow,h.j3,h.sY,h.gU,h.kP,λj t a=>?_,λj c g t b a x d=>?_,λj c t b a=>?_⟩
 ·rcases get a with⟨rfl,rfl⟩|⟨_,a⟩
  ·exact h1
  ·exact h.qA j t a
 ·rcases get a with⟨rfl,rfl⟩|⟨_,a⟩
  ·exact(VL b).1 (h2 x d)
  ·exact h.mF j c g t b a x d
 ·rcases get a with⟨rfl,rfl⟩|⟨_,a⟩
  ·exact h3 c b
  ·exact h.pE j c t b a
theorem yI {t':gP}{j:Nat}{x:Int}(hk:k<A.cR.length):ic {A with cR:=A.cR.set k t'} j x↔(j=k/\x∈t'.bs.flatten)\/(j≠k/\ic A j x):=by
 by_cases hjk:j=k
 ·subst hjk;have a:(A.cR.set j t')[j]?=some t':=zO hk;constructor
  ·rintro⟨t,e,hx⟩;have e:(A.cR.set j t')[j]?=some t:=e;rw[a]at e;cases e;exact .inl ⟨rfl,hx⟩
  ·rintro(⟨_,hx⟩|⟨hx,_⟩)
   ·exact⟨_,a,hx⟩
   ·exact(hx rfl).elim
 ·have a:(A.cR.set k t')[j]?=A.cR[j]? := zh (Ne.symm hjk);constructor
  ·rintro⟨t,e,hx⟩;have e:(A.cR.set k t')[j]?=some t:=e;rw[a]at e;exact .inr ⟨hjk,t,e,hx⟩
  ·rintro(⟨hx,_⟩|⟨_,t,e,hx⟩)
   ·exact(hjk hx).elim
   ·exact⟨t,a.trans e,hx⟩
theorem GK {t:gP}(ht:A.cR[k]?=some t){x:Int}:ic A k x↔x∈t.bs.flatten:=by
 constructor
 ·rintro⟨t',e,hx⟩;rw[ht]at e;cases e;exact hx
 ·intro hx;exact⟨t,ht,hx⟩
theorem J6 (h:GA A)(k:Int):Ob A (Z0 A k)/\(∀j y,fU (Z0 A k) j y↔fU A j y)/\(∀x∈YP A k,ic A k.toNat x)/\(YP A k).Nodup/\(YP A k≠[]->∃j:Nat,k=j/\j<A.tb.length) ∧
 ∀j y,ic (Z0 A k) j y↔ic A j y/\¬(j=k.toNat/\y∈YP A k):=by
 by_cases h0:QE A k=0
 ·have s:A.ck k=true:=by
   unfold QE at h0;split at h0
   ·assumption
   ·cases h0
  obtain⟨j,rfl,w⟩:=Gf.1 s;obtain⟨c,H,t,E,m⟩:=h.cl w;have hne:t.bs≠[]:=by
   intro e;unfold QE at h0;rw[s,zC rfl,dG,m]at h0;simp[e]at h0
  have C:Z0 A (j:Int) = {A with cR:=A.cR.set j t.rem}:=by unfold Z0;rw[zC h0,dG,VG m]
  have B:YP A (j:Int)=t.bs.getLast?.getD []:=by unfold YP;rw[zC h0,dG,m]
  have z:t.bs=t.bs.dropLast++[t.bs.getLast hne]:=(List.dropLast_concat_getLast hne).symm;have G:YP A (j:Int)=t.bs.getLast hne:=by rw[B,List.getLast?_eq_some_getLast hne];rfl
  have d:t.bs.flatten=t.bs.dropLast.flatten++t.bs.getLast hne:=by
   conv=>lhs;rw[z]
   simp
  have p:=h.qA j t m;rw[d]at p;have b:=nB.1 p;have g:t.rem.bs=t.bs.dropLast:=rfl;rw[C,G];refine⟨⟨h.j2 (by rw[g];exact b.1) (λx a=>(VL E).2 (h.mF j c H t E m x (by rw[d];exact kO _ a))) λF u J D=>h.pE j F t u m J ((List.dropLast_sublist _).subset D),Kp.aG rfl rfl rfl rfl,rfl⟩,λ_ _=>Iff.rfl,λx a=>?_,b.2.1,λ_=>⟨j,rfl,w⟩,λi y=>?_⟩
  ·rw[dG,GK m,d];exact oB _ a
  ·rw[yI (by rw[h.lt];exact w),g,dG];by_cases hij:i=j
   ·subst hij;rw[GK m,d,zK];constructor
    ·rintro(⟨_,a⟩|⟨a,_⟩)
     ·exact⟨.inl a,λr=>b.2.2 y a y r.2 rfl⟩
     ·exact(a rfl).elim
    ·rintro⟨a|a,r⟩
     ·exact .inl ⟨rfl,a⟩
     ·exact(r ⟨rfl,a⟩).elim
   ·constructor
    ·rintro(⟨a,_⟩|⟨_,a⟩)
     ·exact(hij a).elim
     ·exact⟨a,λr=>hij r.1⟩
    ·rintro⟨a,_⟩;exact .inr ⟨hij,a⟩
 ·have C:Z0 A k=A:=by unfold Z0;rw[zB h0]
  have B:YP A k=[]:=by unfold YP;rw[zB h0]
  rw[C,B];exact⟨⟨h,Kp.refl A,rfl⟩,λ_ _=>Iff.rfl,by simp,ua,by simp,by simp⟩
theorem WlS (h:GA A)(k:Int){xs:List Int}(hn:xs.Nodup)(hd:∀x∈xs,¬ic A k.toNat x):Ob A (KG A k xs)/\(∀j y,fU (KG A k xs) j y↔fU A j y) ∧
 (VI A k xs=true->(∃j:Nat,k=j/\j<A.tb.length)/\(∀x∈xs,fU A k.toNat x)/\∀j y,ic (KG A k xs) j y↔ic A j y\/(j=k.toNat/\y∈xs))/\(VI A k xs=false->KG A k xs=A):=by
 by_cases h0:VI A k xs=true
 ·have B:HL A k xs=0:=by
   unfold VI at h0;simp only[zF,zV]at h0;exact h0.1
  have w:A.ck k=true:=by
   unfold HL at B;split at B
   ·assumption
   ·cases B
  obtain⟨j,rfl,D⟩:=Gf.1 w;obtain⟨c,F,t,s,u⟩:=h.cl D;have m:=B;unfold HL at m;rw[w,zC rfl,dG,s.1,s.2]at m;simp only at m;have p:xs.length=c.batch:=by
   apply Classical.byContradiction;intro d;rw[zB d]at m;cases m
  rw[zC p]at m;have z:∀x∈xs,fU A j x:=by
   intro x d;split at m
   ·rename_i C;rw[ko]at C;rw[VL s];simpa[Tk]using C x d
   ·cases m
  have E:KG A (j:Int) xs = {A with cR:=A.cR.set j {t with bs:=t.bs++[xs]}}:=by unfold KG;rw[zC h0,dG,VG u]
  have r:(t.bs++[xs]).flatten=t.bs.flatten++xs:=by simp
  rw[E];refine⟨⟨h.j2 ?_ ?_ ?_,Kp.aG rfl rfl rfl rfl,rfl⟩,λ_ _=>Iff.rfl,λ_=>⟨⟨j,rfl,D⟩,by rw[dG];exact z,λi y=>?_⟩,λH=>by rw[H]at h0;cases h0⟩
  ·show(t.bs++[xs]).flatten.Nodup;rw[r,nB];exact⟨h.qA j t u,hn,λa C b G e=>hd b G (by subst e;rw[dG,GK u];exact C)⟩
  ·intro x d;have d:x∈(t.bs++[xs]).flatten:=d;rw[r,zK]at d;rcases d with d|d
   ·exact(VL s).2 (h.mF j c F t s u x d)
   ·exact z x d
  ·intro c' hc' ys g;have g:ys∈t.bs++[xs]:=g;rcases zK.1 g with g|g
   ·exact h.pE j c' t hc' u ys g
   ·simp only[zN]at g;rw[s.1]at hc';cases hc';rw[g];exact p
  ·rw[yI (by rw[h.lt];exact D),dG];show(i=j/\y∈(t.bs++[xs]).flatten)\/_↔_;rw[r,zK];by_cases hij:i=j
   ·subst hij;rw[GK u];constructor
    ·rintro(⟨_,d|d⟩|⟨d,_⟩)
     ·exact .inl d
     ·exact .inr ⟨rfl,d⟩
     ·exact(d rfl).elim
    ·rintro(d|⟨_,d⟩)
     ·exact .inl ⟨rfl,.inl d⟩
     ·exact .inl ⟨rfl,.inr d⟩
   ·constructor
    ·rintro(⟨d,_⟩|⟨_,d⟩)
     ·exact(hij d).elim
     ·exact .inl d
    ·rintro(d|⟨d,_⟩)
     ·exact .inr ⟨hij,d⟩
     ·exact(hij d).elim
 ·have E:KG A k xs=A:=by unfold KG;rw[zB h0]
  rw[E];exact⟨⟨h,Kp.refl A,rfl⟩,λ_ _=>Iff.rfl,λd=>(h0 d).elim,λ_=>rfl⟩
end Go.Ar
namespace Go.Ar
open Go.Bu (Zz Kg Zx qV VS dH take KU Vo Bounded full can YT U9 Z1 Ks Qd WV Kq QH UD Hy lB)
variable {A:AR}{sp:Sp}{k:Nat}{c:cA}{ss:List cH}
structure Ow (A:AR) (sp:Sp):Prop where
 l:sp.st.length=A.n
 own:∀p,A.f p≠0->gf sp.st p≠0
 cl:∀p,A.f p=3->gf sp.st p=1
 le:∀p,gf sp.st p<=2
structure St (A B:AR) (sp sp':Sp):Prop where
 ga:GA B
 ow:Ow B sp'
 n:B.n=A.n
 tb:B.tb=A.tb
 room:B.room=A.room
 same:∀p,A.f p=0->B.f p=0->gf sp'.st p=gf sp.st p
 gone:∀p,A.f p≠0->B.f p=0->gf sp'.st p=0
 new:∀p,A.f p=0->B.f p≠0->gf sp.st p=0/\16<=p
theorem St.refl (h:GA A)(hw:Ow A sp):St A A sp sp:=⟨h,hw,rfl,rfl,rfl,λ_ _ _=>rfl,λp b a=>(b a).elim,λp b a=>(a b).elim⟩
theorem Ow.len {B C:AR}{sp sp':Sp}(h:Ow B sp)(k:Ow C sp')(e:C.n=B.n):sp'.st.length=sp.st.length:=by rw[h.l,k.l,e]
theorem St.trans {B C:AR}{sp' sp'':Sp}(h:St A B sp sp')(k:St B C sp' sp''):St A C sp sp'':=by
 refine⟨k.ga,k.ow,k.n.trans h.n,k.tb.trans h.tb,k.room.trans h.room,λp a b=>?_,λp a b=>?_,λp a b=>?_⟩
 ·by_cases hB:B.f p=0
  ·rw[k.same p hB b,h.same p a hB]
  ·rw[k.gone p hB b,(h.new p a hB).1]
 ·by_cases hB:B.f p=0
  ·rw[k.same p hB b,h.gone p a hB]
  ·exact k.gone p hB b
 ·by_cases hB:B.f p=0
  ·have:=k.new p hB b;rw[h.same p a hB]at this;exact this
  ·exact h.new p a hB
theorem Ow.kp {B:AR}(hw:Ow A sp)(h:Kp A B):Ow B sp:=⟨hw.l.trans h.n.symm,λp a=>hw.own p λe=>a ((h.z p).2 e),λp a=>hw.cl p (h.t p a),hw.le⟩
theorem St.kp {B:AR}(hg:GA B)(hw:Ow A sp)(h:Kp A B):St A B sp sp:=
 ⟨hg,hw.kp h,h.n,h.tb,h.room,λ_ _ _=>rfl,λp b a=>(b ((h.z p).1 a)).elim,λp b a=>(a ((h.z p).2 b)).elim⟩
theorem Ob.st {B:AR}(o:Ob A B)(hw:Ow A sp):St A B sp sp:=St.kp o.ga hw o.kp
theorem GA.grown (h:GA A){B:AR}{sp':Sp}{s size:Nat}(g:Grown A B sp sp' s size):GA B:=by
 have e:∀{j d tt},Cl B j d tt↔Cl A j d tt:=λ{j d tt}=>by unfold Cl;rw[g.tb,g.cG]
 exact⟨g.pg,by rw[g.tb];exact h.tb,by rw[g.cG,g.tb];exact h.lc,by rw[g.cR,g.tb];exact h.lt,λj d tt a=>h.cG j d tt (e.1 a),λj d tt a=>h.one j d tt (e.1 a),λj d tt a p=>by rw[g.ow];exact h.ow j d tt (e.1 a) p,
  λp=>by rw[g.ow,g.runs];exact h.j3 p,λp=>by rw[g.ow,g.tb];exact h.sY p,by rw[g.runs];exact h.gU,by rw[g.runs];exact h.kP,by rw[g.cR];exact h.qA,λj d tt t a b=>h.mF j d tt t (e.1 a) (by rw[←g.cR];exact b),by rw[g.tb,g.cR];exact h.pE⟩
theorem Grown.st (h:GA A)(hw:Ow A sp){B:AR}{sp':Sp}{s size:Nat}(g:Grown A B sp sp' s size):St A B sp sp':=by
 have b:∀p,B.f p≠A.f p->s<=p/\p<s+size:=λp a=>by
  apply Classical.byContradiction;intro hn;exact a (g.o p hn).1
 refine⟨h.grown g,⟨g.l.trans (hw.l.trans g.n.symm),λp a=>?_,λp a=>?_,λp=>?_⟩,g.n,g.tb,g.room,λp j d=>?_,λp j d=>?_,λp j d=>?_⟩
 ·by_cases hi:s<=p/\p<s+size
  ·rw[(g.i p hi.1 hi.2).2];omega
  ·rw[(g.o p hi).2];rw[(g.o p hi).1]at a;exact hw.own p a
 ·by_cases hi:s<=p/\p<s+size
  ·rw[(g.i p hi.1 hi.2).2]
  ·rw[(g.o p hi).2];rw[(g.o p hi).1]at a;exact hw.cl p a
 ·by_cases hi:s<=p/\p<s+size
  ·rw[(g.i p hi.1 hi.2).2];omega
  ·rw[(g.o p hi).2];exact hw.le p
 ·refine(g.o p λhi=>?_).2;rw[(g.i p hi.1 hi.2).1]at d;omega
 ·have:=b p O;rw[(g.i p this.1 this.2).1]at d;omega
 ·have:=b p O;exact⟨g.un p this.1 this.2,by have:=g.s1;omega⟩
theorem Tg {n:Nat}{S:Nat->Bool}(hb:Bounded S n)(hn:n<=1024){j q m a:Nat}(hf:full S j q=true)(hm:m<=2^j)(ha:a<=2^j):Zx n S m a≠none:=by
 intro h0;have s:S (q*2^j)=true:=YT.1 hf _ (Cs _ (k8 j));obtain⟨i,hi⟩:=U9 hb s;have g:j<=i:=by
  apply Classical.byContradiction;intro hlt;exact Ks hi hf rfl (Cs _ (k8 j)) O
 have r:=Qd hb (Z1.1 hi).1;have d:i<11:=by
  apply Classical.byContradiction;intro hge;have:2^11<=2^i:=pj O O;omega
 have p:2^j<=2^i:=pj O g;have:=Hy h0 i d O O;have b:=(Kq hb (k:=i)).2 ⟨_,rfl,hi⟩;rw[this]at b;simp at b
theorem BF (m:Nat):KD m=16\/KD m=32\/KD m=64:=by
 unfold KD;split
 ·exact .inl rfl
 ·split
  ·exact .inr (.inl rfl)
  ·exact .inr (.inr rfl)
theorem Pb {m:Nat}(h:m<=64):m<=KD m:=by
 unfold KD;split
 ·omega
 ·split<;>omega
theorem ER (h:GA A)(hw:Ow A sp){m a no:Nat}(h1:1<=m)(h2:m<=64)(ha:1<=a/\a<=16) :
 (dC A sp m a no=(none,A,sp)/\Zx A.n A.S m a=none/\dB sp (KD (max m a))=none) ∨
 ∃x A1 sp1,dC A sp m a no=(some x,dV A1 x m no,sp1)/\Zx A1.n A1.S m a=some x/\(A1=A/\sp1=sp\/Zx A.n A.S m a=none/\∃s,dB sp (KD (max m a))=some s/\Grown A A1 sp sp1 s (KD (max m a))):=by
 cases ht:Zx A.n A.S m a with
 | some x=>exact .inr ⟨x,A,sp,by unfold dC;rw[ht],ht,.inl ⟨rfl,rfl⟩⟩
 | none=>
  cases hg:Hm A sp (KD (max m a))with
  | none=>
   refine .inl ⟨by unfold dC;rw[ht,hg],rfl,?_⟩;unfold Hm at hg;split at hg
   ·assumption
   ·cases hg
  | some r=>
   obtain⟨A1,sp1⟩:=r;obtain⟨s,w,g⟩:=Ν h.pg hw.l (λp b=>Classical.byContradiction λy=>hw.own p y b) (BF _) hg;have d:Zx A1.n A1.S m a≠none:=by
    have B:=Pb (m:=max m a) O;obtain⟨_,_,⟨i,hi⟩,_⟩:=Hq (by have:=BF (max m a);omega) w;have key:∃j,KD (max m a)=2^j:=by
     rcases BF (max m a)with e|e|e
     ·exact⟨4,e⟩
     ·exact⟨5,e⟩
     ·exact⟨6,e⟩
    obtain⟨j,z⟩:=key;refine Tg g.pg.jC g.pg.n2 (j:=j) (q:=i) (YT.2 λp b=>?_) O O;rw[g.pg.fr];rw[QH,←z,←hi]at b;rw[(g.i p b.1 b.2).1];omega
   obtain⟨x,u⟩:=Option.ne_none_iff_exists'.1 d;exact .inr ⟨x,A1,sp1,by unfold dC;rw[ht,hg];simp only;rw[u],u,.inr ⟨rfl,s,w,g⟩⟩
theorem JB (h:PG A){m a x:Nat}(hx:Zx A.n A.S m a=some x):∀p,x<=p->p<x+m->A.S p=true:=λp d b=>(lB h.jC hx).2 p d b
theorem Tx (h:PG A){m a x:Nat}(h1:1<=m)(h4:m<=4)(hx:Zx A.n A.S m a=some x):x/16=(x+m-1)/16:=by
 obtain⟨j,_,b,_,d,_⟩:=UD hx;obtain⟨q,rfl,g⟩:=(Kq h.jC).1 (List.mem_of_head? d)
 match j,b with
 | 0,b=>
  have:m=1:=by omega
  subst this;rfl
 | 1,b=>
  have:m<=2:=by omega
  simp only[Nat.pow_one]at *;omega
 | j+2,b=>
  have e:2^(j+2)=4*2^j:=by rw[Nat.pow_add];omega
  rw[e,←xT,Nat.mul_comm q 4,xT];generalize q*2^j=z;omega
theorem FF (h:PG A){a m no:Nat}(h1:1<=m)(hn:no≠0)(hS:∀p,a<=p->p<a+m->A.S p=true):Kp A (dV A a m no):=by
 obtain⟨o,hi,g,d⟩:=DP h h1 hn hS;refine⟨rfl,rfl,rfl,d,λp b=>?_⟩;by_cases hin:a<=p/\p<a+m
 ·rw[(hi p hin.1 hin.2).1]at b;omega
 ·rw[o.f p hin]at b;exact b
theorem GA.rk (h:GA A)(hk:Cl A k c ss){x:Nat}(hS:∀p,x<=p->p<x+c.aG->A.S p=true)(h1:x/16=(x+c.aG-1)/16) :
 GA {dV A x c.aG (k+1)with cG:=(dV A x c.aG (k+1)).cG.set k (iv c ss x)}/\(∀s∈ss,s.st+c.aG<=x\/x+c.aG<=s.st):=by
 have r:=h.cG k c ss hk;have u:=r.pg;have z:=hk.lt;have C:=h.tb;obtain⟨o,hi,pg,F⟩:=DP h.pg u (no:=k+1) O hS;have m:∀p,x<=p->p<x+c.aG->A.ow p=0:=λp B D=>by
  have E:=(h.pg.fr p).1 (hS p B D);apply Classical.byContradiction;intro hne;have:=(h.pg.us p).2 hne;omega
 have hd:∀s∈ss,s.st+c.aG<=x\/x+c.aG<=s.st:=λs b=>by
  apply Classical.byContradiction;intro hn;have E:=m (max x s.st) O O;have:=(h.used hk b (p:=max x s.st) O O).2;omega
 refine⟨?_,hd⟩;have g:Cl (dV A x c.aG (k+1)) k c ss:=hk;refine⟨pg.same rfl rfl rfl rfl,h.tb,by show(A.cG.set k _).length=_;simp[h.lc];rfl,h.lt,λj d i a=>?_,λj d i a s b=>?_,λj d i a p=>?_,λp=>?_,λp=>?_,h.gU,h.kP,h.qA,λj d i t a w=>?_,h.pE⟩
 ·rcases UL g a with⟨rfl,rfl,rfl⟩|⟨hne,a⟩
  ·exact Ls r hd
  ·exact h.cG j d i a
 ·rcases UL g a with⟨rfl,rfl,rfl⟩|⟨hne,a⟩
  ·rcases V1.1 b with rfl|b
   ·exact h1
   ·exact h.one _ _ _ hk s b
  ·exact h.one j d i a s b
 ·show(dV A x c.aG (k+1)).ow p=j+1↔_;by_cases hp:x<=p/\p<x+c.aG
  ·rw[(hi p hp.1 hp.2).2];rcases UL g a with⟨rfl,rfl,rfl⟩|⟨hne,a⟩
   ·exact⟨λ_=>⟨_,V1.2 (.inl rfl),hp.1,hp.2⟩,λ_=>rfl⟩
   ·rw[←h.ow j d i a p,m p hp.1 hp.2];omega
  ·rw[o.ow p hp];rcases UL g a with⟨rfl,rfl,rfl⟩|⟨hne,a⟩
   ·rw[h.ow _ _ _ hk p];constructor
    ·rintro⟨s,b,h3⟩;exact⟨s,V1.2 (.inr b),h3⟩
    ·rintro⟨s,b,h3⟩;rcases V1.1 b with rfl|b
     ·exact(hp h3).elim
     ·exact⟨s,b,h3⟩
   ·exact h.ow j d i a p
 ·show(dV A x c.aG (k+1)).ow p=41↔mL A.runs p;by_cases hp:x<=p/\p<x+c.aG
  ·rw[(hi p hp.1 hp.2).2,←h.j3,m p hp.1 hp.2];omega
  ·rw[o.ow p hp];exact h.j3 p
 ·show(dV A x c.aG (k+1)).ow p=41\/(dV A x c.aG (k+1)).ow p<=A.tb.length;by_cases hp:x<=p/\p<x+c.aG
  ·rw[(hi p hp.1 hp.2).2];omega
  ·rw[o.ow p hp];exact h.sY p
 ·rcases UL g a with⟨rfl,rfl,rfl⟩|⟨hne,a⟩
  ·intro y hy;exact(JQ r hd).2 (h.mF _ _ _ t hk w y hy)
  ·exact h.mF j d i t a w
theorem GA.uq (h:GA A){x m:Nat}(hm:1<=m)(hS:∀p,x<=p->p<x+m->A.S p=true):GA {dV A x m 41 with runs:=A.runs++[(x,m)]}:=by
 have z:=h.tb;obtain⟨o,hi,pg,B⟩:=DP h.pg hm (no:=41) O hS;have g:∀p,x<=p->p<x+m->A.ow p=0:=λp y u=>by
  have w:=(h.pg.fr p).1 (hS p y u);apply Classical.byContradiction;intro hne;have:=(h.pg.us p).2 hne;omega
 refine⟨pg.same rfl rfl rfl rfl,h.tb,h.lc,h.lt,h.cG,h.one,λj d tt b p=>?_,λp=>?_,λp=>?_,λr a=>?_,?_,h.qA,h.mF,h.pE⟩
 ·have b:Cl A j d tt:=b;have:=b.lt;show(dV A x m 41).ow p=j+1↔_;by_cases hp:x<=p/\p<x+m
  ·rw[(hi p hp.1 hp.2).2,←h.ow j d tt b p,g p hp.1 hp.2];omega
  ·rw[o.ow p hp];exact h.ow j d tt b p
 ·show(dV A x m 41).ow p=41↔mL (A.runs++[(x,m)]) p;by_cases hp:x<=p/\p<x+m
  ·rw[(hi p hp.1 hp.2).2];exact⟨λ_=>⟨(x,m),by simp,hp⟩,λ_=>rfl⟩
  ·rw[o.ow p hp,h.j3];constructor
   ·rintro⟨r,a,h3⟩;exact⟨r,by simp[a],h3⟩
   ·rintro⟨r,a,h3⟩;rcases zK.1 a with a|a
    ·exact⟨r,a,h3⟩
    ·simp only[zN]at a;subst a;exact(hp h3).elim
 ·show(dV A x m 41).ow p=41\/(dV A x m 41).ow p<=A.tb.length;by_cases hp:x<=p/\p<x+m
  ·rw[(hi p hp.1 hp.2).2];omega
  ·rw[o.ow p hp];exact h.sY p
 ·rcases zK.1 a with a|a
  ·exact h.gU r a
  ·simp only[zN]at a;subst a;exact hm
 ·refine qx.2 ⟨h.kP,by simp,λr a s i=>?_⟩;simp only[zN]at i;subst i;apply Classical.byContradiction;intro hn;simp only at hn;have:=h.gU r a;have w:=g (max x r.1) O O;have:=(h.jH a (p:=max x r.1) O O).2;omega
theorem Ny {l:List (Nat×Nat)}{x m:Nat}(h:∀r∈l,r.1≠x):cC.mset2 l x m=l++[(x,m)]:=by
 unfold cC.mset2;rw[zB];simp only[jV,zU,not_exists,not_and];exact h
theorem Es (h:GA A)(hw:Ow A sp)(k:Int) :
 ((cP A sp k=(A,sp))/\Vy A sp k≠0/\(A.ck k=true->Vy A sp k=6)) ∨
 ∃(j:Nat) (c:cA) (ss:List cH) (x:Nat) (A1:AR) (sp1:Sp),k=j/\Cl A j c ss/\Cl A1 j c ss/\Vy A sp k=0/\cP A sp k=({dV A1 x c.aG (j+1)with cG:=(dV A1 x c.aG (j+1)).cG.set j (iv c ss x)},sp1) ∧
  St A A1 sp sp1/\A1.runs=A.runs/\A1.cR=A.cR/\A1.cG=A.cG/\Zx A1.n A1.S c.aG 1=some x/\(∀s∈ss,s.st+c.aG<=x\/x+c.aG<=s.st)/\St A (cP A sp k).1 sp (cP A sp k).2:=by
 by_cases hck:A.ck k=true
 ·obtain⟨j,rfl,D⟩:=Gf.1 hck;obtain⟨c,ss,t,b,J⟩:=h.cl D;have G:=h.cG j c ss b;have y:=G.ok;unfold cA.ok at y;have F:=b.lt;rcases ER h hw (m:=c.aG) (a:=1) (no:=j+1) O O O with⟨hg,_⟩|⟨x,A1,sp1,hg,htk,hor⟩
  ·left;have z:Vy A sp (j:Int)=6:=by unfold Vy;rw[hck,zC rfl,dG,b.1,b.2];simp only;rw[hg]
   have E:cP A sp (j:Int)=(A,sp):=by unfold cP;rw[hck,zC rfl,dG,b.1,b.2];simp only;rw[hg]
   rw[E,z];exact⟨rfl,by simp,λ_=>rfl⟩
  ·right;have z:Vy A sp (j:Int)=oC c ss x:=by unfold Vy;rw[hck,zC rfl,dG,b.1,b.2];simp only;rw[hg]
   have w:GA A1:=by
    rcases hor with⟨rfl,rfl⟩|⟨_,s,_,g⟩
    ·exact h
    ·exact h.grown g
   have i:St A A1 sp sp1:=by
    rcases hor with⟨rfl,rfl⟩|⟨_,s,_,g⟩
    ·exact St.refl h hw
    ·exact g.st h hw
   have d:A1.runs=A.runs/\A1.cR=A.cR/\A1.cG=A.cG:=by
    rcases hor with⟨rfl,rfl⟩|⟨_,s,_,g⟩
    ·exact⟨rfl,rfl,rfl⟩
    ·exact⟨g.runs,g.cR,g.cG⟩
   have r:Cl A1 j c ss:=⟨by rw[i.tb];exact b.1,by rw[d.2.2];exact b.2⟩;have B:=JB w.pg htk;obtain⟨H,hd⟩:=w.rk r B (Tx w.pg O O htk);have C:=Wj8 hd;have u:cP A sp (j:Int)=({dV A1 x c.aG (j+1)with cG:=(dV A1 x c.aG (j+1)).cG.set j (iv c ss x)},sp1):=by
    unfold cP;rw[hck,zC rfl,dG,b.1,b.2];simp only;rw[hg];simp only;rw[zC C]
   refine⟨j,c,ss,x,A1,sp1,rfl,b,r,by rw[z];exact C,u,i,d.1,d.2.1,d.2.2,htk,hd,?_⟩;rw[u];have kp:=FF w.pg (no:=j+1) O O B;exact i.trans (St.kp H i.ow (kp.trans (Kp.aG rfl rfl rfl rfl)))
 ·left;have p:A.ck k=false:=by simpa using hck
  unfold cP Vy;rw[p];exact⟨rfl,by simp,λh=>by cases h⟩
theorem NT (h:GA A)(hw:Ow A sp)(k:Int):St A (cP A sp k).1 sp (cP A sp k).2/\(cP A sp k).1.runs=A.runs/\(cP A sp k).1.cR=A.cR/\(∀j y,fU (cP A sp k).1 j y↔fU A j y)/\(Vy A sp k≠0->cP A sp k=(A,sp)):=by
 rcases Es h hw k with⟨e,_⟩|⟨j,c,ss,x,A1,sp1,rfl,hk,hk1,hE,e,hst,r1,r2,r3,_,hd,hS⟩
 ·rw[e];exact⟨St.refl h hw,rfl,rfl,λ_ _=>Iff.rfl,λ_=>rfl⟩
 ·refine⟨hS,by rw[e];exact r1,by rw[e];exact r2,λi y=>?_,λd=>(d hE).elim⟩;rw[e];have b:Cl (dV A1 x c.aG (j+1)) j c ss:=hk1;rw[AB b,JQ (h.cG j c ss hk) hd];have e2:fU (dV A1 x c.aG (j+1)) i y↔fU A i y:=by
   have:(dV A1 x c.aG (j+1)).tb=A.tb/\(dV A1 x c.aG (j+1)).cG=A.cG:=⟨hst.tb,r3⟩;unfold fU Cl;rw[this.1,this.2]
  rw[e2];by_cases hij:i=j
  ·subst hij;rw[VL hk];exact⟨λa=>by rcases a with⟨_,a⟩|⟨a,_⟩;exact a;exact(a rfl).elim,λa=>.inl ⟨rfl,a⟩⟩
  ·exact⟨λa=>by rcases a with⟨a,_⟩|⟨_,a⟩;exact(hij a).elim;exact a,λa=>.inr ⟨hij,a⟩⟩
theorem MQ {m a:Int}(h:KY m a=true):∃x y:Nat,m=x/\a=y/\1<=x/\x<=64/\(y=1\/y=2\/y=4\/y=8\/y=16):=by
 unfold KY at h;simp only[zF,zV,nO,zU]at h;exact⟨m.toNat,a.toNat,O,O,O,O,O⟩
theorem SC (h:GA A)(hw:Ow A sp)(m a:Int) :
 (cC A sp m a=(A,sp)/\Q3 A sp m a≠0/\(KY m a=true->Q3 A sp m a=6/\Zx A.n A.S m.toNat a.toNat=none/\dB sp (KD (max m.toNat a.toNat))=none)) ∨
 ∃(x:Nat) (A1:AR) (sp1:Sp),KY m a=true/\Q3 A sp m a=0/\QD A sp m a=x/\cC A sp m a=({dV A1 x m.toNat 41 with runs:=A.runs++[(x,m.toNat)]},sp1) ∧
  Zx A1.n A1.S m.toNat a.toNat=some x/\(A1=A/\sp1=sp\/Zx A.n A.S m.toNat a.toNat=none/\∃s,dB sp (KD (max m.toNat a.toNat))=some s/\Grown A A1 sp sp1 s (KD (max m.toNat a.toNat))) ∧
  St A (cC A sp m a).1 sp (cC A sp m a).2/\(cC A sp m a).1.cR=A.cR/\(∀j y,fU (cC A sp m a).1 j y↔fU A j y):=by
 by_cases hp:KY m a=true
 ·obtain⟨b,w,rfl,rfl,M,L,P⟩:=MQ hp;have F:Q3 A sp (b:Int) (w:Int)=if(dC A sp b w 41).1.isSome then 0 else 6:=by unfold Q3;rw[zC hp,dG,dG]
  have H:QD A sp (b:Int) (w:Int)=(dC A sp b w 41).1.getD 0:=by unfold QD;rw[zC hp,dG,dG]
  rcases ER h hw (m:=b) (a:=w) (no:=41) M L O with⟨hg,hn1,hn2⟩|⟨x,A1,sp1,hg,htk,hor⟩
  ·left;have J:cC A sp (b:Int) (w:Int)=(A,sp):=by unfold cC;rw[zC hp,dG,dG,hg]
   rw[J,F,hg,dG,dG];exact⟨rfl,by simp,λ_=>⟨rfl,hn1,hn2⟩⟩
  ·right;have z:GA A1:=by
    rcases hor with⟨rfl,rfl⟩|⟨_,s,_,g⟩
    ·exact h
    ·exact h.grown g
   have u:St A A1 sp sp1:=by
    rcases hor with⟨rfl,rfl⟩|⟨_,s,_,g⟩
    ·exact St.refl h hw
    ·exact g.st h hw
   have d:A1.runs=A.runs/\A1.cR=A.cR/\A1.cG=A.cG:=by
    rcases hor with⟨rfl,rfl⟩|⟨_,s,_,g⟩
    ·exact⟨rfl,rfl,rfl⟩
    ·exact⟨g.runs,g.cR,g.cG⟩
   have E:=JB z.pg htk;have B:∀r∈A.runs,r.1≠x:=λr K e=>by
    have C:r∈A1.runs:=by rw[d.1];exact K
    have:=z.gU r C;have R:=(z.jH C (p:=x) O O).1;have Q:=(z.pg.fr x).1 (E x O O);omega
   have i:cC A sp (b:Int) (w:Int)=({dV A1 x b 41 with runs:=A.runs++[(x,b)]},sp1):=by
    unfold cC;rw[zC hp,dG,dG,hg];show({dV A1 x b 41 with runs:=cC.mset2 A1.runs x b},sp1)=_;rw[d.1,Ny B]
   have G:=z.uq O E;rw[d.1]at G;have kp:=FF z.pg (no:=41) O O E;refine⟨x,A1,sp1,hp,by rw[F,hg];rfl,by rw[H,hg];rfl,by rw[dG];exact i,by rw[dG,dG];exact htk,by rw[dG,dG];exact hor,?_,by rw[i];exact d.2.1,λj y=>?_⟩
   ·rw[i];exact u.trans (St.kp G u.ow (kp.trans (Kp.aG rfl rfl rfl rfl)))
   ·rw[i];have e1:({dV A1 x b 41 with runs:=A.runs++[(x,b)]}:AR).tb=A.tb:=u.tb;have e2:({dV A1 x b 41 with runs:=A.runs++[(x,b)]}:AR).cG=A.cG:=d.2.2;unfold fU Cl;rw[e1,e2]
 ·left;have D:KY m a=false:=by simpa using hp
  unfold cC Q3;rw[D];exact⟨rfl,by simp,λN=>by cases N⟩
theorem SL {x:Int}{r:Nat×Nat}(h:qJ A x=some r):r∈A.runs/\x=(r.1:Int):=by
 unfold qJ at h;exact⟨uH h,by have:=ux h;simpa using Eq.symm (by simpa using this)⟩
theorem ν (h:GA A)(x:Int):(Kp A (Kb A x)/\GA (Kb A x))/\(Kb A x).cR=A.cR/\(∀j y,fU (Kb A x) j y↔fU A j y)/\(VC A x≠0->Kb A x=A) ∧
 (VC A x=0->∃r∈A.runs,x=(r.1:Int)/\(Kb A x).runs=A.runs.filter λq=>!(q==r)):=by
 cases hr:qJ A x with
 | none=>
  have e:Kb A x=A:=by unfold Kb;rw[hr]
  have C:VC A x=8:=by unfold VC;rw[hr];rfl
  rw[e,C];exact⟨⟨Kp.refl A,h⟩,rfl,λ_ _=>Iff.rfl,λ_=>rfl,λi=>by cases i⟩
 | some r=>
  obtain⟨b,i⟩:=SL hr;have w:=h.gU r b;have z:A.runs.filter (λq=>!((q.1:Int)==x))=A.runs.filter λq=>!(q==r):=by
   apply vK;intro q g;have:((q.1:Int)==x)=(q==r):=by
    rw[kW];simp only[zU];constructor
    ·intro e;have H:=h.gU q g;exact h.gZ g b (x:=q.1) O O O O
    ·rintro rfl;exact i.symm
   rw[this]
  have e:Kb A x=Ul {A with runs:=A.runs.filter λq=>!(q==r)} r:=by unfold Kb;rw[hr];simp only;rw[z]
  have C:VC A x=0:=by unfold VC;rw[hr];rfl
  obtain⟨a,m⟩:=r;obtain⟨o,hi,pg,G⟩:=IK (A:={A with runs:=A.runs.filter λq=>!(q==(a,m))}) (h.pg.same rfl rfl rfl rfl) w (λp B D=>(h.jH b B D).1);have own:∀p,a<=p->p<a+m->A.ow p=41:=λp B D=>(h.jH b B D).2;have F:=h.tb;rw[e,C];refine⟨⟨⟨rfl,rfl,rfl,G,λp E=>?_⟩,?_⟩,rfl,λ_ _=>Iff.rfl,λi=>(i rfl).elim,λ_=>⟨_,b,i,rfl⟩⟩
  ·by_cases hin:a<=p/\p<a+m
   ·rw[(hi p hin.1 hin.2).1]at E;omega
   ·rw[o.f p hin]at E;exact E
  ·refine⟨pg,h.tb,h.lc,h.lt,h.cG,h.one,λj d tt u p=>?_,λp=>?_,λp=>?_,λq g=>h.gU q (zL.1 g).1,h.kP.filter _,h.qA,h.mF,h.pE⟩
   ·have u:Cl A j d tt:=u;have:=u.lt;by_cases hin:a<=p/\p<a+m
    ·rw[(hi p hin.1 hin.2).2,←h.ow j d tt u p,own p hin.1 hin.2];omega
    ·rw[o.ow p hin];exact h.ow j d tt u p
   ·show _↔mL (A.runs.filter λq=>!(q==(a,m))) p;by_cases hin:a<=p/\p<a+m
    ·rw[(hi p hin.1 hin.2).2];constructor
     ·intro i;omega
     ·rintro⟨q,g,q1,q2⟩;have s:=zL.1 g;have:=h.gZ s.1 b q1 q2 hin.1 hin.2;subst this;simp at s
    ·rw[o.ow p hin];show A.ow p=41↔_;rw[h.j3];constructor
     ·rintro⟨q,g,q1⟩;refine⟨q,zL.2 ⟨g,?_⟩,q1⟩;have:q≠(a,m):=by rintro rfl;exact hin q1
      simpa using this
     ·rintro⟨q,g,q1⟩;exact⟨q,(zL.1 g).1,q1⟩
   ·by_cases hin:a<=p/\p<a+m
    ·rw[(hi p hin.1 hin.2).2];omega
    ·rw[o.ow p hin];exact h.sY p
theorem B4 (k:Nat):∀(outs:List (List Int)) {A:AR},GA A->outs.flatten.Nodup->(∀x∈outs.flatten,fU A k x/\¬ic A k x) →
 Ob A (outs.foldl (λA' xs=>ZY A' (k:Int) xs) A)/\(outs.foldl (λA' xs=>ZY A' (k:Int) xs) A).cR=A.cR/\∀j y,fU (outs.foldl (λA' xs=>ZY A' (k:Int) xs) A) j y↔fU A j y/\¬(j=k/\y∈outs.flatten)
 | [],A,h,_,_=>⟨⟨h,Kp.refl A,rfl⟩,rfl,by simp⟩
 | xs::outs,A,h,hn,ht=>by
  rw[vv]at hn ht;have hn':=nB.1 hn;have p:∀x∈xs,fU A k x/\¬ic A k x:=λx i=>ht x (kO _ i);rw[re];cases xs with
  | nil=>
   have s:ZY A (k:Int) []=A\/Kw A (k:Int) []=0:=by
    by_cases w:Kw A (k:Int) []=0
    ·exact .inr w
    ·exact .inl (by unfold ZY;rw[zB w])
   obtain⟨o,e,t,_⟩:=DB h (k:=(k:Int)) (xs:=[]) (λ_=>by simp);have u:∀j y,fU (ZY A (k:Int) []) j y↔fU A j y:=λj y=>by
    rcases s with s|s
    ·rw[s]
    ·rw[t s];simp
   have m:∀j y,ic (ZY A (k:Int) []) j y↔ic A j y:=λj y=>by unfold ic;rw[e]
   obtain⟨o2,e2,z⟩:=B4 k outs o.ga hn'.2.1 λx i=>by rw[u,m];exact ht x (oB _ i)
   exact⟨⟨o2.ga,o.kp.trans o2.kp,o2.runs.trans o.runs⟩,e2.trans e,λj y=>by rw[z,u];simp⟩
  | cons x0 xs=>
   obtain⟨c,C,B,_⟩:=(p x0 aA).1;have w:Kw A (k:Int) (x0::xs)=0:=by
    rw[GV h B];exact Ik ⟨λx i=>(VL B).1 (p x i).1,hn'.1⟩
   obtain⟨o,e,t,_⟩:=DB h (k:=(k:Int)) (xs:=x0::xs) (λ_ x i=>by rw[dG];exact(p x i).2);have u:=t w;have m:∀j y,ic (ZY A (k:Int) (x0::xs)) j y↔ic A j y:=λj y=>by unfold ic;rw[e]
   obtain⟨o2,e2,z⟩:=B4 k outs o.ga hn'.2.1 λx i=>by
    rw[u,m];have:=ht x (oB _ i);exact⟨⟨this.1,λg=>hn'.2.2 x g.2 x i rfl⟩,this.2⟩
   refine⟨⟨o2.ga,o.kp.trans o2.kp,o2.runs.trans o.runs⟩,e2.trans e,λj y=>?_⟩;rw[z,u,dG,vv,zK];constructor
   ·rintro⟨⟨a,b⟩,d⟩;refine⟨a,λ⟨r,g⟩=>?_⟩;rcases g with g|g
    ·exact b ⟨r,g⟩
    ·exact d ⟨r,g⟩
   ·rintro⟨a,b⟩;exact⟨⟨a,λ⟨r,g⟩=>b ⟨r,.inl g⟩⟩,λ⟨r,g⟩=>b ⟨r,.inr g⟩⟩
structure ub (A B:AR):Prop where
 ob:Ob A B
 sub:∀j y,ic B j y->ic A j y
 tk:∀j y,fU B j y↔fU A j y/\(ic A j y->ic B j y)
theorem ub.trans {B C:AR}(h:ub A B)(k:ub B C):ub A C:=
 ⟨⟨k.ob.ga,h.ob.kp.trans k.ob.kp,k.ob.runs.trans h.ob.runs⟩,λj y g=>h.sub j y (k.sub j y g),λj y=>by
  rw[k.tk,h.tk];exact⟨λ⟨⟨a,b⟩,d⟩=>⟨a,λe=>d (b e)⟩,λ⟨a,b⟩=>⟨⟨a,λe=>k.sub j y (b e)⟩,λe=>b (h.sub j y e)⟩⟩⟩
theorem TA (h:GA A)(hk:k<A.tb.length):ub A (vF A k):=by
 obtain⟨c,H,t,E,m⟩:=h.cl hk;have r:k<A.cR.length:=by rw[h.lt];exact hk
 have e:vF A k=t.out.foldl (λA' w=>ZY A' (k:Int) w) {A with cR:=A.cR.set k t.tick}:=by unfold vF;rw[m]
 have B:t.bs=t.out++t.tick.bs:=(oJ ((t.low+1)/2) t.bs).symm;have i:t.bs.flatten=t.out.flatten++t.tick.bs.flatten:=by conv=>lhs;rw[B];rw[List.flatten_append]
 have s:=h.qA k t m;rw[i]at s;have g:=nB.1 s;have u:∀x∈t.bs.flatten,fU A k x:=λx d=>(VL E).2 (h.mF k c H t E m x d);have G:GA {A with cR:=A.cR.set k t.tick}:=h.j2 g.2.1 (λx d=>u x (by rw[i];exact oB _ d)) λF z w C=>h.pE k F t z m w (t.qk w C);obtain⟨o,e2,D⟩:=B4 k t.out G g.1 λx d=>by
  refine⟨u x (by rw[i];exact kO _ d),?_⟩;rw[yI r];rintro(⟨_,hy⟩|⟨hy,_⟩)
  ·exact g.2.2 x d x hy rfl
  ·exact hy rfl
 rw[←e]at o e2 D;have p:∀j y,ic (vF A k) j y↔(j=k/\y∈t.tick.bs.flatten)\/(j≠k/\ic A j y):=λj y=>by
  rw[←yI r];unfold ic;rw[e2]
 refine⟨⟨o.ga,(Kp.aG rfl rfl rfl rfl:Kp A {A with cR:=A.cR.set k t.tick}).trans o.kp,o.runs⟩,λj y d=>?_,λj y=>?_⟩
 ·rcases(p j y).1 d with⟨rfl,hy⟩|⟨_,hy⟩
  ·rw[GK m,i];exact oB _ hy
  ·exact hy
 ·rw[D,p];show fU A j y/\_↔_;by_cases hjk:j=k
  ·subst hjk;rw[GK m,i,zK];constructor
   ·rintro⟨a,b⟩;refine⟨a,λd=>?_⟩;rcases d with d|d
    ·exact(b ⟨rfl,d⟩).elim
    ·exact .inl ⟨rfl,d⟩
   ·rintro⟨a,b⟩;refine⟨a,λ⟨_,d⟩=>?_⟩;rcases b (.inl d)with⟨_,hy⟩|⟨hy,_⟩
    ·exact g.2.2 y d y hy rfl
    ·exact hy rfl
  ·exact⟨λ⟨a,_⟩=>⟨a,λd=>.inr ⟨hjk,d⟩⟩,λ⟨a,_⟩=>⟨a,λ⟨d,_⟩=>hjk d⟩⟩
theorem Ja (h:GA A):∀m,m<=A.tb.length->ub A ((List.range m).foldl vF A)
 | 0,_=>⟨⟨h,Kp.refl A,rfl⟩,λ_ _=>id,λ_ _=>⟨λa=>⟨a,id⟩,λa=>a.1⟩⟩
 | m+1,hm=>by
  have t:=Ja h m O;rw[qR,vp,re,List.foldl_nil];exact t.trans (TA t.ob.ga (by rw[t.ob.kp.tb];omega))
theorem MJ (h:GA A):ub A (sS A):=Ja h _ (by rw[h.lt];exact zE _)
end Go.Ar
namespace Go.Ar
open Go.Bu (Zz Kg Zx qV VS dH take KU Vo Bounded)
variable {A:AR}{sp:Sp}{k:Nat}{c:cA}{ss:List cH}
end Go.Ar
namespace Go.Ar
structure Pc where
 k:Nat
 cls:Int
 addr:Nat
 size:Nat
 eR:Bool
 deriving DecidableEq
structure Wd where
 tb:List cA
 sp:Sp
 bY:List AR
 held:List Pc
structure Act where
 kd:Int
 ar:Int
 cl:Int
 a:Int
 b:Int
 l:List Int
abbrev Key:=Nat×Int×Nat
def Pc.key (p:Pc):Key:=(p.k,p.cls,p.addr)
def mf (k:Nat)(cls x:Int)(p:Pc):Bool:=p.k==k&&(p.cls==cls&&((p.addr:Int)==x && !p.eR))
def wk (held:List Pc)(k:Nat)(cls x:Int):Option Nat:=held.findIdx? (mf k cls x)
def jx (held:List Pc)(k:Nat)(cls:Int)(l:List Int):Bool:=l.all (λx=>(wk held k cls x).isSome)&&decide l.Nodup
def lX (k:Nat)(cls:Int)(held:List Pc)(x:Int):List Pc:=match wk held k cls x with
 | some i=>held.take i++held.drop (i+1)
 | none=>held
def ye (held:List Pc)(k:Nat)(cls:Int)(l:List Int):List Pc:=l.foldl (lX k cls) held
def eC (k:Nat)(cls:Int)(l:List Int)(p:Pc):Bool:=p.k==k&&(p.cls==cls&&l.contains (p.addr:Int))
def Gm (held:List Pc)(k:Nat)(cls:Int)(l:List Int)(m:Bool):List Pc:=held.map λp=>if eC k cls l p then{p with eR:=m}else p
def Lm (held:List Pc)(x:Int):Bool:=held.any λp=>decide ((p.addr:Int)<=x)&&decide (x-(p.addr:Int)<(p.size:Int))
def AE (us:List AR)(held:List Pc):List Pc:=held.filter λp=>!p.eR||(match us[p.k]? with
 | some A=>wV A (p.addr:Int)
 | none=>false)
def oR (tb:List cA)(k:Int):Nat:=((tb[k.toNat]?).map (·.size)).getD 0
def Wd.put (W:Wd)(k:Nat)(A:AR)(sp:Sp)(held:List Pc):Wd:={W with sp:=sp,bY:=W.bY.set k A,held:=held}
def Hd (A:AR)(p:Pc):Prop:=(p.cls = -1/\p.eR=false/\∃r∈A.runs,p.addr=r.1*256/\p.size=r.2*256) ∨
 ∃(j:Nat) (c:cA),p.cls=j/\A.tb[j]?=some c/\p.size=c.size/\fU A j (p.addr:Int)/\(p.eR=true↔ic A j (p.addr:Int))
structure WI (W:Wd):Prop where
 ga:∀(k:Nat) (A:AR),W.bY[k]?=some A->GA A
 ow:∀(k:Nat) (A:AR),W.bY[k]?=some A->Ow A W.sp
 tb:∀(k:Nat) (A:AR),W.bY[k]?=some A->A.tb=W.tb
 low:∀(k:Nat) (A:AR),W.bY[k]?=some A->∀p,p<16->A.f p=0
 own:∀p,gf W.sp.st p≠0->∃(k:Nat) (A:AR),W.bY[k]?=some A/\A.f p≠0
 one:∀p (k l:Nat) (A B:AR),W.bY[k]?=some A->W.bY[l]?=some B->A.f p≠0->B.f p≠0->k=l
 hk:(W.held.map Pc.key).Nodup
 hf:∀p∈W.held,∃A,W.bY[p.k]?=some A/\Hd A p
 ht:∀(k:Nat) (A:AR),W.bY[k]?=some A->∀(j:Nat) (y:Int),fU A j y->∃p∈W.held,p.k=k/\p.cls=j/\(p.addr:Int)=y
 hr:∀(k:Nat) (A:AR),W.bY[k]?=some A->∀r∈A.runs,∃p∈W.held,p.k=k/\p.cls = -1/\p.addr=r.1*256
variable {W:Wd}{k:Nat}{A:AR}
theorem VT {α:Type}{l:List α}{k j:Nat}{x y:α}(h:(l.set k x)[j]?=some y):(j=k/\y=x/\k<l.length)\/(j≠k/\l[j]?=some y):=by
 by_cases hjk:j=k
 ·subst hjk;have a:j<l.length:=by have:=(cX.1 h).1;simpa using this
  rw[zO a]at h;exact .inl ⟨rfl,(Option.some.inj h).symm,a⟩
 ·rw[zh (Ne.symm hjk)]at h;exact .inr ⟨hjk,h⟩
theorem WI.unique (h:WI W){p q:Pc}(hp:p∈W.held)(hq:q∈W.held)(e:p.key=q.key):p=q:=by
 obtain⟨i,hi⟩:=zP hp;obtain⟨j,d⟩:=zP hq;obtain⟨b,rfl⟩:=cX.1 hi;obtain⟨a,rfl⟩:=cX.1 d;have:=kS.1 h.hk;rcases qB i j with hl|hl|hl
 ·exact(this i j (by simpa using b) (by simpa using a) hl (by simpa using e)).elim
 ·subst hl;rfl
 ·exact(this j i (by simpa using a) (by simpa using b) hl (by simpa using e.symm)).elim
theorem WI.step (h:WI W)(hk:W.bY[k]?=some A){B:AR}{sp':Sp}{held':List Pc}(s:St A B W.sp sp')(h1:(held'.map Pc.key).Nodup)(h2:∀p∈held',p.k=k->Hd B p)(h3:∀p,p.k≠k->(p∈held'↔p∈W.held))
 (h4:∀(j:Nat) (y:Int),fU B j y->∃p∈held',p.k=k/\p.cls=j/\(p.addr:Int)=y) (h5:∀r∈B.runs,∃p∈held',p.k=k/\p.cls = -1/\p.addr=r.1*256):WI (W.put k B sp' held'):=by
 have F:=(cX.1 hk).1;have u:(W.bY.set k B)[k]?=some B:=zO F;have J:∀{j:Nat} {C:AR},j≠k->W.bY[j]?=some C->(W.bY.set k B)[j]?=some C:=λa g=>(zh (Ne.symm a)).trans g;have m:∀{j:Nat} {C:AR},j≠k->W.bY[j]?=some C->∀p,C.f p≠0->A.f p=0/\B.f p=0/\gf sp'.st p=gf W.sp.st p:=by
  intro j C a g p b;have w:A.f p=0:=Classical.byContradiction λz=>a (h.one p j k C A g hk b z);have x:B.f p=0:=Classical.byContradiction λz=>by
   have:=(s.new p w z).1;exact(h.ow j C g).own p b this
  exact⟨w,x,s.same p w x⟩
 refine⟨λj C a=>?_,λj C a=>?_,λj C a=>?_,λj C a p b=>?_,λp b=>?_,λp j l C D a K g G=>?_,h1,λp b=>?_,λj C a i y H=>?_,λj C a r hr=>?_⟩
 ·rcases VT a with⟨rfl,rfl,_⟩|⟨_,a⟩
  ·exact s.ga
  ·exact h.ga j C a
 ·rcases VT a with⟨rfl,rfl,_⟩|⟨d,a⟩
  ·exact s.ow
  ·have o:=h.ow j C a;have L:=h.ow k A hk;refine⟨?_,λp b=>?_,λp b=>?_,s.ow.le⟩
   ·show sp'.st.length=C.n;rw[s.ow.l,s.n,←L.l,o.l]
   ·show gf sp'.st p≠0;rw[(m d a p b).2.2];exact o.own p b
   ·show gf sp'.st p=1;rw[(m d a p O).2.2];exact o.cl p b
 ·rcases VT a with⟨rfl,rfl,_⟩|⟨_,a⟩
  ·exact s.tb.trans (h.tb _ A hk)
  ·exact h.tb j C a
 ·rcases VT a with⟨rfl,rfl,_⟩|⟨_,a⟩
  ·apply Classical.byContradiction;intro z;have:=s.new p (h.low _ A hk p b) z;omega
  ·exact h.low j C a p b
 ·have b:gf sp'.st p≠0:=b;by_cases x:B.f p=0
  ·by_cases w:A.f p=0
   ·rw[s.same p w x]at b;obtain⟨j,C,a,g⟩:=h.own p b;have d:j≠k:=by
     rintro rfl;rw[hk]at a;cases a;exact g w
    exact⟨j,C,J d a,g⟩
   ·exact(b (s.gone p w x)).elim
  ·exact⟨k,B,u,x⟩
 ·rcases VT a with⟨rfl,rfl,_⟩|⟨d,hj'⟩
  ·rcases VT K with⟨rfl,rfl,_⟩|⟨hne2,hl'⟩
   ·rfl
   ·exact(g (m hne2 hl' p G).2.1).elim
  ·rcases VT K with⟨rfl,rfl,_⟩|⟨hne2,hl'⟩
   ·exact(G (m d hj' p g).2.1).elim
   ·exact h.one p j l C D hj' hl' g G
 ·by_cases hpk:p.k=k
  ·exact⟨B,by rw[hpk];exact u,h2 p b hpk⟩
  ·obtain⟨C,g,M⟩:=h.hf p ((h3 p hpk).1 b);exact⟨C,J hpk g,M⟩
 ·rcases VT a with⟨rfl,rfl,_⟩|⟨d,a⟩
  ·exact h4 i y H
  ·obtain⟨p,b,e1,e2,E⟩:=h.ht j C a i y H;exact⟨p,(h3 p (by rw[e1];exact d)).2 b,e1,e2,E⟩
 ·rcases VT a with⟨rfl,rfl,_⟩|⟨d,a⟩
  ·exact h5 r hr
  ·obtain⟨p,b,e1,e2,E⟩:=h.hr j C a r hr;exact⟨p,(h3 p (by rw[e1];exact d)).2 b,e1,e2,E⟩
theorem Hd.to {B:AR}{p:Pc}(h:Hd A p)(e1:B.tb=A.tb)(e2:B.runs=A.runs)(e3:∀j y,fU A j y->fU B j y)(e4:∀j y,ic B j y↔ic A j y):Hd B p:=by
 rcases h with⟨h1,h2,r,hr,h3⟩|⟨j,c,h1,h2,h3,h4,h5⟩
 ·exact .inl ⟨h1,h2,r,by rw[e2];exact hr,h3⟩
 ·exact .inr ⟨j,c,h1,by rw[e1];exact h2,h3,e3 _ _ h4,by rw[e4];exact h5⟩
theorem WI.hd (h:WI W)(hk:W.bY[k]?=some A){p:Pc}(hp:p∈W.held)(e:p.k=k):Hd A p:=by
 obtain⟨C,a,b⟩:=h.hf p hp;rw[e,hk]at a;cases a;exact b
theorem WI.lY (h:WI W)(hk:W.bY[k]?=some A){B:AR}{sp':Sp}(s:St A B W.sp sp')(e2:B.runs=A.runs)(e3:∀j y,fU B j y↔fU A j y)(e4:B.cR=A.cR):WI (W.put k B sp' W.held):=
 h.step hk s h.hk (λp b e=>(h.hd hk b e).to s.tb e2 (λj y=>(e3 j y).2) λj y=>by unfold ic;rw[e4]) (λ_ _=>Iff.rfl) (λj y a=>h.ht k A hk j y ((e3 j y).1 a)) λr hr=>h.hr k A hk r (by rw[←e2];exact hr)
theorem WI.cls (h:WI W){p:Pc}(hp:p∈W.held){j:Nat}(e:p.cls=j)(hk:W.bY[p.k]?=some A):∃c,A.tb[j]?=some c/\p.size=c.size/\fU A j (p.addr:Int)/\(p.eR=true↔ic A j (p.addr:Int)):=by
 rcases h.hd hk hp rfl with⟨h1,_⟩|⟨i,c,h1,h2,h3,h4,h5⟩
 ·omega
 ·obtain rfl:i=j:=by omega
  exact⟨c,h2,h3,h4,h5⟩
theorem WI.run (h:WI W){p:Pc}(hp:p∈W.held)(e:p.cls = -1)(hk:W.bY[p.k]?=some A):p.eR=false/\∃r∈A.runs,p.addr=r.1*256/\p.size=r.2*256:=by
 rcases h.hd hk hp rfl with⟨_,h2⟩|⟨i,c,h1,_⟩
 ·exact h2
 ·omega
theorem Vu {k:Nat}{cls x:Int}{p:Pc}:mf k cls x p=true↔p.k=k/\p.cls=cls/\(p.addr:Int)=x/\p.eR=false:=by
 simp[mf]
theorem QA {k:Nat}{cls:Int}{l:List Int}{p:Pc}:eC k cls l p=true↔p.k=k/\p.cls=cls/\(p.addr:Int)∈l:=by
 simp[eC]
theorem Ξ {held:List Pc}{k:Nat}{cls x:Int}{i:Nat}(h:wk held k cls x=some i):∃p,held[i]?=some p/\mf k cls x p=true:=by
 obtain⟨hi,a,_⟩:=n4.1 h;exact⟨held[i],cW hi,a⟩
theorem Nk {held:List Pc}{k:Nat}{cls x:Int}{p:Pc}(hp:p∈held)(h:mf k cls x p=true):(wk held k cls x).isSome=true:=by
 unfold wk;rw[List.findIdx?_isSome,jV];exact⟨p,hp,h⟩
theorem Vq {held:List Pc}{k:Nat}{cls:Int}{l:List Int}:jx held k cls l=true↔(∀x∈l,∃p∈held,mf k cls x p=true)/\l.Nodup:=by
 unfold jx;rw[zF,ko,zV];refine and_congr_left λ_=>forall_congr' λx=>imp_congr_right λa=>?_;unfold wk;rw[List.findIdx?_isSome,jV]
theorem MZ {held:List Pc}(hn:(held.map Pc.key).Nodup){i:Nat}{p:Pc}(hi:held[i]?=some p):held.take i++held.drop (i+1)=held.filter λq=>!(q.key==p.key):=by
 induction held generalizing i with
 | nil=>simp at hi
 | cons q l ih=>
  rw[zR,zr]at hn;cases i with
  | zero=>
   simp only[Ad,Option.some.injEq]at hi;subst hi;have:l.filter (λr=>!(r.key==q.key))=l:=by
    rw[qU];intro r hr;have:r.key≠q.key:=λe=>hn.1 (zD.2 ⟨r,hr,e⟩);simpa using this
   simp[this]
  | succ i=>
   have hi:l[i]?=some p:=by simpa using hi
   have a:q.key≠p.key:=λe=>hn.1 (zD.2 ⟨p,zG hi,e.symm⟩);rw[vY,wq,lO,ih hn.2 hi,uG];have:(!(q.key==p.key))=true:=by simpa using a
   rw[this];rfl
theorem Us {held:List Pc}(hn:(held.map Pc.key).Nodup)(f:Pc->Bool):((held.filter f).map Pc.key).Nodup:=hn.sublist (List.filter_sublist.map _)
theorem Jc {k:Nat}{cls:Int}:∀(l:List Int) {held:List Pc},(held.map Pc.key).Nodup->(∀x∈l,∃p∈held,mf k cls x p=true)->l.Nodup->ye held k cls l=held.filter λp=>!eC k cls l p
 | [],held,_,_,_=>by
  have:∀p,eC k cls [] p=false:=λp=>by simp[eC]
  exact(qU.2 λp _=>by rw[this];rfl).symm
 | x::l,held,hn,ho,hl=>by
  obtain⟨p,A,B⟩:=ho x aA;obtain⟨i,hi⟩:=pX.1 (Nk A B);obtain⟨q,w,j⟩:=Ξ hi;have g:=zr.1 hl;have e1:lX k cls held x=held.filter λr=>!(r.key==q.key):=by unfold lX;rw[hi];exact MZ hn w
  obtain⟨q1,q2,q3,q4⟩:=Vu.1 j;have s:=Jc l (held:=held.filter λr=>!(r.key==q.key)) (Us hn _) (λy m=>by
   obtain⟨r,u,d⟩:=ho y (by simp[m]);refine⟨r,zL.2 ⟨u,?_⟩,d⟩;have:r.key≠q.key:=λe=>by
    have C:r.addr=q.addr:=congrArg (λz:Key=>z.2.2) e;have:=(Vu.1 d).2.2.1;have:y=x:=by omega
    subst this;exact g.1 m
   simpa using this) g.2
  unfold ye at s ⊢;rw[re,e1,s,Ea];apply vK;intro r u;have e:(r.key==q.key)=(r.k==k&&(r.cls==cls&&(r.addr:Int)==x)):=by
   rw[kW];simp only[Pc.key,zU,zF,Prod.mk.injEq];constructor
   ·rintro⟨a,b,c⟩;exact⟨O,O,O⟩
   ·rintro⟨a,b,c⟩;exact⟨O,O,O⟩
  rw[e];unfold eC;rw[List.contains_cons];cases r.k==k<;>cases r.cls==cls<;>cases((r.addr:Int)==x)<;>cases l.contains (r.addr:Int)<;>rfl
theorem Ki {held:List Pc}{k:Nat}{cls:Int}{l:List Int}{m:Bool}{p:Pc}:p∈Gm held k cls l m↔∃q∈held,p=if eC k cls l q then{q with eR:=m}else q:=by
 unfold Gm;rw[zD];constructor
 ·rintro⟨q,hq,rfl⟩;exact⟨q,hq,rfl⟩
 ·rintro⟨q,hq,rfl⟩;exact⟨q,hq,rfl⟩
theorem Rc {held:List Pc}{k:Nat}{cls:Int}{l:List Int}{m:Bool}:(Gm held k cls l m).map Pc.key=held.map Pc.key:=by
 unfold Gm;rw[lM];apply kA;intro p _;simp only[Function.comp];split<;>rfl
theorem Aj (hk:W.bY[k]?=some A)(h:WI W):WI (W.put k A W.sp W.held):=h.lY hk (St.refl (h.ga k A hk) (h.ow k A hk)) rfl (λ_ _=>Iff.rfl) rfl
theorem TK (h:GA A){j:Nat}{c:cA}{ss:List cH}(hc:Cl A j c ss){l:Nat}{s:cH}{i:Nat}(hs:ss[l]?=some s)(hi:i<c.n){x:Nat}(h1:at_ c s i<=x)(h2:x<at_ c s i+c.size):Hx A (x:Int)=some ((j:Int),at_ c s i):=by
 have b:=h.cG j c ss hc;have d:=GE b.pos hi h1 h2;have a:=h.used hc (zG hs) d.1 d.2;have r:=h.pg.lt (p:=x/256) (by rw[a.1];omega);have u:=h.pg.n2;have g:=hc.lt;have m:=h.tb;unfold Hx;rw[zB O,dG];simp only;rw[zC (show x/256<1024 by omega),a.2,zB O,zB O,Nat.add_sub_cancel,hc.1,hc.2];simp only;rw[(Ep b).2 ⟨l,s,i,hs,hi,rfl,O,O⟩];rfl
theorem ID (h:GA A){r:Nat×Nat}(hr:r∈A.runs){x:Nat}(h1:r.1*256<=x)(h2:x<(r.1+r.2)*256):Hx A (x:Int)=some (-1,r.1*256):=by
 have a:=h.jH hr (p:=x/256) O O;have b:=h.pg.lt (p:=x/256) (by rw[a.1];omega);have d:=h.pg.n2;unfold Hx;rw[zB O,dG];simp only;rw[zC (show x/256<1024 by omega),a.2,zB O,zC rfl,CY h.pK hr O O];rfl
theorem Pm (h:GA A){x:Int}{k:Int}{a:Nat}(hf:Hx A x=some (k,a)):(k = -1/\∃r∈A.runs,a=r.1*256/\((r.1*256:Nat):Int)<=x/\x<(((r.1+r.2)*256:Nat):Int)) ∨
 ∃(j:Nat) (c:cA) (ss:List cH) (l:Nat) (s:cH) (i:Nat),k=j/\Cl A j c ss/\ss[l]?=some s/\i<c.n/\a=at_ c s i/\((at_ c s i:Nat):Int)<=x/\x<((at_ c s i+c.size:Nat):Int):=by
 unfold Hx at hf;split at hf
 ·cases hf
 ·rename_i hx;obtain⟨y,rfl⟩:=zc (show 0<=x by omega);rw[dG]at hf;simp only at hf;by_cases hlt:y/256<1024
  ·rw[zC hlt]at hf;split at hf
   ·cases hf
   ·split at hf
    ·rename_i h0 h41;obtain⟨r,g,b⟩:=oz.1 hf;have w:=uH g;have z:=ux g;simp at z;cases b;exact .inl ⟨rfl,r,w,rfl,O,O⟩
    ·rename_i h0 h41;split at hf
     ·rename_i c ss h1 h2;obtain⟨C,u,b⟩:=oz.1 hf;cases b;have d:Cl A (A.ow (y/256)-1) c ss:=⟨h1,h2⟩;obtain⟨l,s,i,B,hi,rfl,m,p⟩:=(Ep (h.cG _ _ _ d)).1 u;exact .inr ⟨_,c,ss,l,s,i,rfl,d,B,hi,rfl,m,p⟩
     ·cases hf
  ·rw[zB hlt,zC rfl]at hf;cases hf
theorem fU.find (h:GA A){j:Nat}{x:Int}(hx:fU A j x):∃y:Nat,x=y/\Hx A x=some ((j:Int),y):=by
 obtain⟨c,d,b,g⟩:=hx;have a:=h.cG j c d b;obtain⟨l,s,i,m,hi,rfl,p⟩:=(Ug a).1 g;exact⟨_,rfl,TK h b m hi (zE _) (by have:=a.pos;omega)⟩
theorem Cj (h:GA A){x:Int}:wV A x=true↔(∃j,fU A j x)\/∃r∈A.runs,x=((r.1*256:Nat):Int):=by
 constructor
 ·intro hx;unfold wV at hx;split at hx
  ·rename_i k a g;split at hx
   ·rename_i he;rcases Pm h g with⟨rfl,r,hr,rfl,_⟩|⟨j,c,d,l,s,i,rfl,b,hs,hi,rfl,_⟩
    ·exact .inr ⟨r,hr,he.symm⟩
    ·rw[zB O,dG,b.1,b.2]at hx;exact .inl ⟨j,c,d,b,by simpa[Tk]using hx⟩
   ·cases hx
  ·cases hx
 ·rintro(⟨j,hj⟩|⟨r,hr,rfl⟩)
  ·obtain⟨y,rfl,g⟩:=hj.find h;obtain⟨c,d,b,m⟩:=hj;unfold wV;rw[g];simp only;rw[zC True.intro,zB O,dG,b.1,b.2];unfold Tk at m;show(eB c d (y:Int)==some true)=true;rw[m];rfl
  ·unfold wV;have:=h.gU r hr;rw[ID h hr (zE _) O];simp
theorem WI.xp (h:WI W)(hk:W.bY[k]?=some A){cl:Int}{l:List Int}(ho:jx W.held k cl l=true){j:Nat}(e:cl=j):∀x∈l,¬ic A j x:=by
 intro x hx hin;obtain⟨p,m,a⟩:=(Vq.1 ho).1 x hx;obtain⟨i,g,r,b⟩:=Vu.1 a;obtain⟨c,_,_,_,d⟩:=h.cls m (j:=j) (by rw[g,e]) (by rw[i];exact hk);rw[r]at d;rw[d.2 hin]at b;cases b
theorem WI.grow (h:WI W)(hk:W.bY[k]?=some A)(x:Int):WI (W.put k (cP A W.sp x).1 (cP A W.sp x).2 W.held):=by
 obtain⟨s,e1,e2,a,_⟩:=NT (h.ga k A hk) (h.ow k A hk) x;exact h.lY hk s e1 a e2
theorem WI.from (h:WI W)(hk:W.bY[k]?=some A)(cl m:Int):WI (W.put k (YS A cl m) W.sp (W.held++(Yz A cl m).map λy=>⟨k,cl,y,oR W.tb cl,false⟩)):=by
 obtain⟨o,e1,e2,G,E,C⟩:=I7 (h.ga k A hk) cl m;have tb:(YS A cl m).tb=A.tb:=o.kp.tb;have i:∀y∈Yz A cl m,∃j:Nat,cl=j/\j<A.tb.length:=λy g=>G (λe=>by rw[e]at g;simp at g);have u:∀y∈Yz A cl m,∀p∈W.held,¬(p.k=k/\p.cls=cl/\p.addr=y):=by
  rintro y g p d ⟨F,N,M⟩;obtain⟨j,rfl,_⟩:=i y g;obtain⟨c,_,_,ht,_⟩:=h.cls d N (by rw[F];exact hk);rw[M]at ht;exact E y g (by rw[dG];exact ht)
 refine h.step hk (o.st (h.ow k A hk)) ?_ (λp d e=>?_) (λp z=>?_) (λj y g=>?_) λr hr=>?_
 ·rw[zj,nB];refine⟨h.hk,?_,λa K b H e=>?_⟩
  ·rw[lM];exact List.Pairwise.map (R:=(· ≠ ·)) _ (λa b B e=>B (by simpa[Pc.key]using e)) e2
  ·subst e;obtain⟨p,d,rfl⟩:=zD.1 K;obtain⟨q,J,e⟩:=zD.1 H;obtain⟨y,g,rfl⟩:=zD.1 J;simp only[Pc.key,Prod.mk.injEq]at e;exact u y g p d ⟨e.1.symm,e.2.1.symm,e.2.2.symm⟩
 ·rcases zK.1 d with d|d
  ·exact(h.hd hk d e).to tb o.runs (λj y s=>(C j y).2 (.inl s)) λj y=>by unfold ic;rw[e1]
  ·obtain⟨y,g,rfl⟩:=zD.1 d;obtain⟨j,rfl,s⟩:=i y g;refine .inr ⟨j,A.tb[j],rfl,by rw[tb];exact cW s,?_,(C j y).2 (.inr ⟨(dG j).symm,y,g,rfl⟩),?_⟩
   ·show oR W.tb (j:Int)=_;unfold oR;rw[dG,←h.tb k A hk,cW s];rfl
   ·constructor
    ·intro hx;cases hx
    ·rintro⟨t,ht,hx⟩;rw[e1]at ht;obtain⟨c,L,P,D,w⟩:=(h.ga k A hk).cl s;rw[ht]at w;cases w;exact(E y g (by rw[dG];exact(VL D).2 ((h.ga k A hk).mF j c L t D ht _ hx))).elim
 ·rw[zK];constructor
  ·rintro(d|d)
   ·exact d
   ·obtain⟨y,_,rfl⟩:=zD.1 d;exact(z rfl).elim
  ·exact .inl
 ·rcases(C j y).1 g with g|⟨rfl,x,hx,rfl⟩
  ·obtain⟨p,d,q⟩:=h.ht k A hk j y g;exact⟨p,kO _ d,q⟩
  ·obtain⟨j,rfl,_⟩:=i x hx;exact⟨_,oB _ (zD.2 ⟨x,hx,rfl⟩),rfl,by simp,rfl⟩
 ·rw[o.runs]at hr;obtain⟨p,d,q⟩:=h.hr k A hk r hr;exact⟨p,kO _ d,q⟩
theorem WI.AT (h:WI W){cl:Int}{l:List Int}(ho:jx W.held k cl l=true):ye W.held k cl l=W.held.filter λp=>!eC k cl l p:=
 Jc l h.hk (Vq.1 ho).1 (Vq.1 ho).2
theorem WI.toC (h:WI W)(hk:W.bY[k]?=some A){cl:Int}{l:List Int}(ho:jx W.held k cl l=true):WI (W.put k (ZY A cl l) W.sp (if Kw A cl l=0 then ye W.held k cl l else W.held)):=by
 have ga:=h.ga k A hk;obtain⟨o,e1,e2,G⟩:=DB ga (k:=cl) (xs:=l) λg x m=>by
  obtain⟨j,c,H,rfl,_⟩:=DH ga g;rw[dG];exact h.xp hk ho rfl x m
 by_cases g:Kw A cl l=0
 ·rw[zC g,h.AT ho];obtain⟨j,c,H,rfl,M,L⟩:=DH ga g;have e2:=e2 g;rw[dG]at e2;refine h.step hk (o.st (h.ow k A hk)) (Us h.hk _) (λp s e=>?_) (λp z=>?_) (λi y J=>?_) λr hr=>?_
  ·have u:=zL.1 s;have E:eC k (j:Int) l p=false:=by simpa using u.2
   rcases h.hd hk u.1 e with⟨h1,h2,r,hr,h3⟩|⟨i,d,h1,h2,h3,h4,h5⟩
   ·exact .inl ⟨h1,h2,r,by rw[o.runs];exact hr,h3⟩
   ·refine .inr ⟨i,d,h1,by rw[o.kp.tb];exact h2,h3,(e2 i _).2 ⟨h4,λ⟨a,b⟩=>?_⟩,by unfold ic at h5 ⊢;rw[e1];exact h5⟩;have:eC k (j:Int) l p=true:=QA.2 ⟨e,by rw[h1,a],b⟩;rw[E]at this;cases this
  ·rw[zL];have:eC k (j:Int) l p=false:=by
    apply nV.2;intro m;exact z (QA.1 m).1
   rw[this];simp
  ·obtain⟨C,F⟩:=(e2 i y).1 J;obtain⟨p,s,B,D,w⟩:=h.ht k A hk i y C;refine⟨p,zL.2 ⟨s,?_⟩,B,D,w⟩;have:eC k (j:Int) l p=false:=by
    apply nV.2;intro m;obtain⟨_,N,K⟩:=QA.1 m;exact F ⟨O,by rw[←w];exact K⟩
   rw[this];rfl
  ·rw[o.runs]at hr;obtain⟨p,s,B,D,w⟩:=h.hr k A hk r hr;refine⟨p,zL.2 ⟨s,?_⟩,B,D,w⟩;have:eC k (j:Int) l p=false:=by
    apply nV.2;intro m;have:=(QA.1 m).2.1;omega
   rw[this];rfl
 ·rw[zB g,G g];exact Aj hk h
theorem WI.move (h:WI W)(hk:W.bY[k]?=some A){B:AR}{j:Nat}{l:List Int}{m:Bool}(o:Ob A B)(e1:∀i y,fU B i y↔fU A i y)(e2:∀i y,ic B i y↔if i=j/\y∈l then m=true else ic A i y):WI (W.put k B W.sp (Gm W.held k (j:Int) l m)):=by
 refine h.step hk (o.st (h.ow k A hk)) (by rw[Rc];exact h.hk) (λp b e=>?_) (λp a=>?_) (λi y g=>?_) λr hr=>?_
 ·obtain⟨q,s,rfl⟩:=Ki.1 b;have d:q.k=k:=by
   split at e<;>exact e
  rcases h.hd hk s d with⟨h1,h2,r,hr,h3⟩|⟨i,c,h1,h2,h3,h4,h5⟩
  ·have:eC k (j:Int) l q=false:=by
    apply nV.2;intro hx;have:=(QA.1 hx).2.1;omega
   rw[this];exact .inl ⟨h1,h2,r,by rw[o.runs];exact hr,h3⟩
  ·by_cases hx:eC k (j:Int) l q=true
   ·rw[zC hx];obtain⟨_,D,C⟩:=QA.1 hx;have z:i=j:=by omega
    refine .inr ⟨i,c,h1,by rw[o.kp.tb];exact h2,h3,(e1 _ _).2 h4,?_⟩;show m=true↔ic B i (q.addr:Int);rw[e2,zC ⟨z,C⟩]
   ·rw[zB hx];refine .inr ⟨i,c,h1,by rw[o.kp.tb];exact h2,h3,(e1 _ _).2 h4,?_⟩;rw[e2,zB λg=>hx (QA.2 ⟨d,by rw[h1,g.1],g.2⟩)];exact h5
 ·rw[Ki];constructor
  ·rintro⟨q,s,rfl⟩;have:eC k (j:Int) l q=false:=by
    apply nV.2;intro hx;rw[zC hx]at a;exact a (QA.1 hx).1
   rw[this];exact s
  ·intro b;refine⟨p,b,?_⟩;have:eC k (j:Int) l p=false:=by
    apply nV.2;intro hx;exact a (QA.1 hx).1
   rw[this];rfl
 ·obtain⟨p,b,w,x,u⟩:=h.ht k A hk i y ((e1 i y).1 g);refine⟨_,Ki.2 ⟨p,b,rfl⟩,?_,?_,?_⟩
  ·split<;>exact w
  ·split<;>exact x
  ·split<;>exact u
 ·rw[o.runs]at hr;obtain⟨p,b,w,x,u⟩:=h.hr k A hk r hr;refine⟨_,Ki.2 ⟨p,b,rfl⟩,?_,?_,?_⟩
  ·split<;>exact w
  ·split<;>exact x
  ·split<;>exact u
theorem Mt {held:List Pc}{k:Nat}{cls:Int}{m:Bool}:Gm held k cls [] m=held:=by
 unfold Gm;have:∀p,eC k cls [] p=false:=λp=>by simp[eC]
 simp[this]
theorem WI.wL (h:WI W)(hk:W.bY[k]?=some A)(cl:Int):WI (W.put k (Z0 A cl) W.sp (Gm W.held k cl (YP A cl) false)):=by
 obtain⟨o,e1,e2,s,g,a⟩:=J6 (h.ga k A hk) cl;by_cases hv:YP A cl=[]
 ·rw[hv,Mt];have m:∀j y,ic (Z0 A cl) j y↔ic A j y:=λj y=>by rw[a,hv];simp
  refine h.step hk (o.st (h.ow k A hk)) h.hk (λp d e=>(h.hd hk d e).to o.kp.tb o.runs (λj y=>(e1 j y).2) m) (λ_ _=>Iff.rfl) (λj y b=>h.ht k A hk j y ((e1 j y).1 b)) λr hr=>h.hr k A hk r (by rw[←o.runs];exact hr)
 ·obtain⟨j,rfl,_⟩:=g hv;rw[dG]at a;exact h.move hk o e1 λi y=>by
   rw[a];split
   ·rename_i hx;simp[hx]
   ·rename_i hx;simp[hx]
theorem WI.Su (h:WI W)(hk:W.bY[k]?=some A){cl:Int}{l:List Int}(ho:jx W.held k cl l=true):WI (W.put k (KG A cl l) W.sp (if VI A cl l then Gm W.held k cl l true else W.held)):=by
 by_cases a:VI A cl l=true
 ·have b:∃j:Nat,cl=j:=by
   have d:HL A cl l=0:=by
    unfold VI at a;simp only[zF,zV]at a;exact a.1
   have b:A.ck cl=true:=by
    unfold HL at d;split at d
    ·assumption
    ·cases d
   obtain⟨j,g,_⟩:=Gf.1 b;exact⟨j,g⟩
  obtain⟨j,rfl⟩:=b;obtain⟨o,e1,e2,_⟩:=WlS (h.ga k A hk) (j:Int) (xs:=l) (Vq.1 ho).2 (by rw[dG];exact h.xp hk ho rfl);obtain⟨_,_,e2⟩:=e2 a;rw[dG]at e2;rw[a,zC rfl];exact h.move hk o e1 λi y=>by
   rw[e2];split
   ·rename_i hx;simp[hx]
   ·rename_i hx;simp[hx]
 ·have a:VI A cl l=false:=by simpa using a
  have e:KG A cl l=A:=by unfold KG;rw[a];rfl
  rw[a,e];exact Aj hk h
theorem WI.xU (h:WI W)(hk:W.bY[k]?=some A)(m a:Int):WI (W.put k (cC A W.sp m a).1 (cC A W.sp m a).2 (if Q3 A W.sp m a=0 then W.held++[⟨k, -1,QD A W.sp m a*256,m.toNat*256,false⟩]else W.held)):=by
 rcases SC (h.ga k A hk) (h.ow k A hk) m a with⟨e,hE,_⟩|⟨x,A1,sp1,g,hE,hV,e,htk,hor,s,et,ek⟩
 ·rw[zB hE,e];exact Aj hk h
 ·rw[zC hE,hV];have w:(cC A W.sp m a).1.runs=A.runs++[(x,m.toNat)]:=by rw[e]
  have u:∀r∈A.runs,r.1≠x:=by
   have hd:=s.ga.kP;rw[w]at hd;intro r hr e2;have z:=(qx.1 hd).2.2 r hr (x,m.toNat) aA;have B:=(h.ga k A hk).gU r hr;have i:=s.ga.gU (x,m.toNat) (by rw[w];simp);simp only at z i;omega
  refine h.step hk s ?_ (λp g e=>?_) (λp C=>?_) (λj y E=>?_) λr hr=>?_
  ·rw[zj,nB];refine⟨h.hk,by simp,λb D d hd e2=>?_⟩;subst e2;obtain⟨p,g,rfl⟩:=zD.1 D;simp only[zR,ny,zN,Pc.key,Prod.mk.injEq]at hd;obtain⟨_,r,hr,i,_⟩:=h.run g hd.2.1 (A:=A) (by rw[hd.1];exact hk);exact u r hr O
  ·rcases zK.1 g with g|g
   ·rcases h.hd hk g e with⟨z,B,r,hr,i⟩|⟨j,c,z,B,i,h4,h5⟩
    ·exact .inl ⟨z,B,r,by rw[w];exact kO _ hr,i⟩
    ·exact .inr ⟨j,c,z,by rw[s.tb];exact B,i,(ek _ _).2 h4,by unfold ic at h5 ⊢;rw[et];exact h5⟩
   ·simp only[zN]at g;subst g;exact .inl ⟨rfl,rfl,(x,m.toNat),by rw[w];simp,rfl,rfl⟩
  ·rw[zK];constructor
   ·rintro(g|g)
    ·exact g
    ·simp only[zN]at g;subst g;exact(C rfl).elim
   ·exact .inl
  ·obtain⟨p,g,q⟩:=h.ht k A hk j y ((ek j y).1 E);exact⟨p,kO _ g,q⟩
  ·rw[w]at hr;rcases zK.1 hr with hr|hr
   ·obtain⟨p,g,q⟩:=h.hr k A hk r hr;exact⟨p,kO _ g,q⟩
   ·simp only[zN]at hr;subst hr;exact⟨_,oB _ (zN.2 rfl),rfl,rfl,rfl⟩
theorem WI.m9 (h:WI W)(hk:W.bY[k]?=some A){r:Nat×Nat}(hr:r∈A.runs):jx W.held k (-1) [(r.1:Int)*256]=true:=by
 refine Vq.2 ⟨λx d=>?_,by simp⟩;simp only[zN]at d;subst d;obtain⟨p,g,b,a,i⟩:=h.hr k A hk r hr;exact⟨p,g,Vu.2 ⟨b,a,O,(h.run g a (by rw[b];exact hk)).1⟩⟩
theorem WI.yn (h:WI W)(hk:W.bY[k]?=some A)(x:Int):WI (W.put k (Kb A x) W.sp (if VC A x=0 then ye W.held k (-1) [x*256]else W.held)):=by
 have ga:=h.ga k A hk;obtain⟨⟨kp,g⟩,K,J,e1,e2⟩:=ν ga x;by_cases h0:VC A x=0
 ·rw[zC h0];obtain⟨r,hr,rfl,G⟩:=e2 h0;rw[h.AT (h.m9 hk hr)];have m:∀p:Pc,eC k (-1) [(r.1:Int)*256] p=true↔p.k=k/\p.cls = -1/\p.addr=r.1*256:=λp=>by
   rw[QA];simp only[zN];constructor
   ·rintro⟨a,b,c⟩;exact⟨a,b,O⟩
   ·rintro⟨a,b,c⟩;exact⟨a,b,O⟩
  refine h.step hk (St.kp g (h.ow k A hk) kp) (Us h.hk _) (λp u e=>?_) (λp B=>?_) (λi y L=>?_) λq d=>?_
  ·have w:=zL.1 u;have z:¬eC k (-1) [(r.1:Int)*256] p=true:=by simpa using w.2
   rw[m]at z;rcases h.hd hk w.1 e with⟨h1,h2,q,d,s⟩|⟨j,c,h1,h2,s,H,F⟩
   ·refine .inl ⟨h1,h2,q,?_,s⟩;rw[G,zL];refine⟨d,?_⟩;have:q≠r:=by rintro rfl;exact z ⟨e,h1,s.1⟩
    simpa using this
   ·exact .inr ⟨j,c,h1,by rw[kp.tb];exact h2,s,(J _ _).2 H,by unfold ic at F ⊢;rw[K];exact F⟩
  ·rw[zL];have:eC k (-1) [(r.1:Int)*256] p=false:=by
    apply nV.2;intro hx;exact B (QA.1 hx).1
   rw[this];simp
  ·obtain⟨p,u,D,E,C⟩:=h.ht k A hk i y ((J i y).1 L);refine⟨p,zL.2 ⟨u,?_⟩,D,E,C⟩;have:eC k (-1) [(r.1:Int)*256] p=false:=by
    apply nV.2;intro hx;have:=((m p).1 hx).2.1;omega
   rw[this];rfl
  ·rw[G,zL]at d;obtain⟨p,u,D,E,C⟩:=h.hr k A hk q d.1;refine⟨p,zL.2 ⟨u,?_⟩,D,E,C⟩;have:eC k (-1) [(r.1:Int)*256] p=false:=by
    apply nV.2;intro hx;have s:=((m p).1 hx).2.2;have H:=ga.gU q d.1;have F:=ga.gU r hr;have:q=r:=ga.gZ d.1 hr (x:=q.1) O O O O;subst this;simp at d
   rw[this];rfl
 ·rw[zB h0,e1 h0];exact Aj hk h
theorem WI.tick (h:WI W)(hk:W.bY[k]?=some A):WI (W.put k (sS A) W.sp (AE (W.bY.set k (sS A)) W.held)):=by
 have ga:=h.ga k A hk;have t:=MJ ga;have z:=(cX.1 hk).1;have d:(W.bY.set k (sS A))[k]?=some (sS A):=zO z;have bS:∀p∈W.held,p∈AE (W.bY.set k (sS A)) W.held↔(p.k=k->∀j:Nat,p.cls=j->fU (sS A) j (p.addr:Int)):=by
  intro p a;unfold AE;rw[zL];simp only[a,tV,nO,mO];by_cases hpk:p.k=k
  ·rw[hpk,d];simp only[true_implies];rcases h.hd hk a hpk with⟨h1,h2,r,hr,h3⟩|⟨j,c,h1,h2,h3,h4,h5⟩
   ·exact⟨λ_ j s=>O,λ_=>.inl h2⟩
   ·constructor
    ·intro hx i hi;obtain rfl:i=j:=by omega
     rcases hx with hx|hx
     ·refine(t.tk i _).2 ⟨h4,λu=>?_⟩;rw[h5.2 u]at hx;cases hx
     ·rcases(Cj t.ob.ga).1 hx with⟨j',hj'⟩|⟨r,hr,e⟩
      ·obtain⟨y,e,hf⟩:=((t.tk j' _).1 hj').1.find ga;obtain⟨H,J,b⟩:=h4.find ga;rw[hf]at b;have:j'=i:=by
        have:=congrArg Prod.fst (Option.some.inj b);simp only at this;omega
       rw[←this];exact hj'
      ·rw[t.ob.runs]at hr;have:=ga.gU r hr;have G:=ID ga hr (x:=r.1*256) (zE _) O;obtain⟨H,J,b⟩:=h4.find ga;rw[e,G]at b;have:=congrArg Prod.fst (Option.some.inj b);simp only at this;omega
    ·intro hx;by_cases hm:p.eR=true
     ·exact .inr ((Cj t.ob.ga).2 (.inl ⟨j,hx j h1⟩))
     ·exact .inl (by simpa using hm)
  ·constructor
   ·intro _ hx;exact(hpk hx).elim
   ·intro _;obtain⟨C,F,K⟩:=h.hf p a;rw[zh (Ne.symm hpk),F];rcases K with⟨h1,h2,_⟩|⟨j,c,_,_,_,h4,_⟩
    ·exact .inl h2
    ·exact .inr ((Cj (h.ga _ C F)).2 (.inl ⟨j,h4⟩))
 have sub:∀p,p∈AE (W.bY.set k (sS A)) W.held->p∈W.held:=λp a=>(zL.1 a).1;refine h.step hk (t.ob.st (h.ow k A hk)) (Us h.hk _) (λp a e=>?_) (λp m=>⟨sub p,λa=>(bS p a).2 λe=>(m e).elim⟩) (λj y E=>?_) λr hr=>?_
 ·have B:=(bS p (sub p a)).1 a e;rcases h.hd hk (sub p a) e with⟨h1,h2,r,hr,h3⟩|⟨j,c,h1,h2,h3,h4,h5⟩
  ·exact .inl ⟨h1,h2,r,by rw[t.ob.runs];exact hr,h3⟩
  ·have s:=B j h1;refine .inr ⟨j,c,h1,by rw[t.ob.kp.tb];exact h2,h3,s,?_⟩;rw[h5];exact⟨((t.tk j _).1 s).2,t.sub j _⟩
 ·obtain⟨p,a,w,D,g⟩:=h.ht k A hk j y ((t.tk j y).1 E).1;refine⟨p,(bS p a).2 λ_ i hi=>?_,w,D,g⟩;obtain rfl:i=j:=by omega
  rw[g];exact E
 ·rw[t.ob.runs]at hr;obtain⟨p,a,w,D,g⟩:=h.hr k A hk r hr;exact⟨p,(bS p a).2 λ_ i hi=>O,w,D,g⟩
theorem WI.p8 (h:WI W){p:Pc}(hp:p∈W.held)(hk:W.bY[p.k]?=some A){x:Nat}(h1:p.addr<=x)(h2:x<p.addr+p.size):A.f (x/256)=1:=by
 have ga:=h.ga _ A hk;rcases h.hd hk hp rfl with⟨_,_,r,hr,e1,e2⟩|⟨j,c,_,hc,e1,ht,_⟩
 ·exact(ga.jH hr O O).1
 ·obtain⟨b,m,a,d⟩:=ht;have:b=c:=Option.some.inj (a.1.symm.trans hc);subst this;have g:=ga.cG j b m a;obtain⟨l,s,i,u,hi,e,_⟩:=(Ug g).1 d;have w:p.addr=at_ b s i:=Int.ofNat.inj e;have:=GE g.pos hi (s:=s) (x:=x) O O;exact(ga.used a (zG u) this.1 this.2).1
theorem WI.write (h:WI W){x v:Int}(hi:Lm W.held x=true):WI {W with sp:=ZF W.sp x v}:=by
 unfold Lm at hi;rw[jV]at hi;obtain⟨p,i,u⟩:=hi;simp only[zF,zV]at u;obtain⟨y,rfl⟩:=zc (show 0<=x by omega);obtain⟨A,hk,_⟩:=h.hf p i;have w:=h.p8 i hk (x:=y) O O;have r:=(h.ow _ A hk).own (y/256) O;by_cases hacc:eI W.sp (y:Int)=0
 ·have e:(ZF W.sp (y:Int) v).st=W.sp.st.set (y/256) 2:=by
   unfold ZF;rw[zC hacc];show W.sp.st.set (_/32) 2=_;rw[dG,show y/8/32=y/256 by omega]
  have d:=Jx r;have g:∀q,gf (ZF W.sp (y:Int) v).st q=if q=y/256 then 2 else gf W.sp.st q:=λq=>by
   rw[e];unfold gf;simp only[zQ];by_cases a:q=y/256
   ·subst a;rw[zO d,zC rfl];rfl
   ·rw[zh (Ne.symm a),zB a]
  have m:∀q,gf (ZF W.sp (y:Int) v).st q≠0↔gf W.sp.st q≠0:=λq=>by
   rw[g];split
   ·rename_i a;subst a;simp[r]
   ·exact Iff.rfl
  refine⟨h.ga,λj C b=>?_,h.tb,h.low,λq a=>h.own q ((m q).1 a),h.one,h.hk,h.hf,h.ht,h.hr⟩;have o:=h.ow j C b;refine⟨by show(ZF W.sp (y:Int) v).st.length=_;rw[e,oP];exact o.l,λq a=>(m q).2 (o.own q a),λq a=>?_,λq=>?_⟩
  ·show gf (ZF W.sp (y:Int) v).st q=1;rw[g,zB]
   ·exact o.cl q a
   ·rintro rfl;have s:j=p.k:=h.one (y/256) j p.k C A b hk O O;subst s;rw[hk]at b;cases b;omega
  ·show gf (ZF W.sp (y:Int) v).st q<=2;rw[g];have:=o.le q;split<;>omega
 ·have e:ZF W.sp (y:Int) v=W.sp:=by unfold ZF;rw[zB hacc]
  rw[e];exact h
theorem fU.lt (h:GA A){j:Nat}{x:Int}(hx:fU A j x):∃y:Nat,x=y/\y<262144:=by
 obtain⟨c,g,b,m⟩:=hx;have a:=h.cG j c g b;obtain⟨l,s,i,r,hi,rfl,w⟩:=(Ug a).1 m;have d:=GE a.pos (s:=s) (x:=at_ c s i) hi (zE _) (by have:=a.pos;omega);have u:=(h.used b (zG r) d.1 d.2).1;have:=h.pg.lt (p:=at_ c s i/256) O;have:=h.pg.n2;exact⟨_,rfl,O⟩
theorem WI.jW (h:WI W){p:Pc}(hp:p∈W.held):p.addr<262144/\p.addr+p.size<=270000:=by
 obtain⟨A,i,m⟩:=h.hf p hp;have ga:=h.ga _ A i;have u:=ga.pg.n2;rcases m with⟨_,_,r,hr,h1,h2⟩|⟨j,c,_,hc,h2,h3,_⟩
 ·have s:=ga.fit hr;have x:=ga.gU r hr;omega
 ·obtain⟨y,e,w⟩:=h3.lt ga;obtain⟨d,g,a,_⟩:=h3;have:d=c:=Option.some.inj (a.1.symm.trans hc);subst this;have b:=(ga.cG j _ g a).ok;unfold cA.ok at b;omega
theorem BZ:∀(N:Nat) (l:List Nat),l.Nodup->(∀x∈l,x<N)->l.length<=N
 | 0,l,_,h=>by
  cases l with
  | nil=>simp
  | cons x l=>have:=h x aA;omega
 | N+1,l,hn,h=>by
  have i:=BZ N (l.filter (· != N)) (hn.sublist tP) λx b=>by
   have b:=zL.1 b;have:=h x b.1;have:x≠N:=by simpa using b.2
   omega
  have d:=List.length_eq_countP_add_countP (l:=l) (p:=(· != N));have g:l.countP (λa=>¬(a != N)=true)<=1:=by
   have e:l.countP (λa=>¬(a != N)=true)=l.count N:=by
    unfold List.count;apply List.countP_congr;intro x _;simp
   rw[e];exact Bz.1 hn N
  rw[yE]at d;omega
theorem WI.apart (h:WI W){p q:Pc}(hp:p∈W.held)(hq:q∈W.held){x:Nat}(p1:p.addr<=x)(p2:x<p.addr+p.size)(q1:q.addr<=x)(q2:x<q.addr+q.size):p=q:=by
 obtain⟨A,y,K⟩:=h.hf p hp;obtain⟨B,m,C⟩:=h.hf q hq;have e1:=h.p8 hp y p1 p2;have e2:=h.p8 hq m q1 q2;have z:p.k=q.k:=h.one (x/256) p.k q.k A B y m O O;rw[←z,y]at m;cases m;have ga:=h.ga _ A y;have J:=ga.tb;have own:∀{r:Pc},Hd A r->r.addr<=x->x<r.addr+r.size->(r.cls = -1/\A.ow (x/256)=41/\∃u∈A.runs,r.addr=u.1*256/\u.1<=x/256/\x/256<u.1+u.2) ∨
  ∃(j:Nat) (c:cA) (b:List cH) (l:Nat) (s:cH) (i:Nat),r.cls=j/\A.ow (x/256)=j+1/\Cl A j c b/\b[l]?=some s/\i<c.n/\r.addr=at_ c s i/\r.size=c.size:=by
  intro r hr r1 r2;rcases hr with⟨c1,_,u,hu,c2,c3⟩|⟨j,c,c1,c2,c3,c4,_⟩
  ·exact .inl ⟨c1,(ga.jH hu O O).2,u,hu,c2,O,O⟩
  ·obtain⟨d,b,a,H⟩:=c4;have:d=c:=Option.some.inj (a.1.symm.trans c2);subst this;have D:=ga.cG j d b a;obtain⟨l,s,i,E,hi,e,_⟩:=(Ug D).1 H;have G:r.addr=at_ d s i:=Int.ofNat.inj e;have g:=GE D.pos (s:=s) (x:=x) hi O O;exact .inr ⟨j,d,b,l,s,i,c1,(ga.used a (zG E) g.1 g.2).2,a,E,hi,G,c3⟩
 refine h.unique hp hq ?_;rcases own K p1 p2 with⟨a1,a2,u,hu,a3,a4,a5⟩|⟨j,c,b,l,s,i,a1,a2,a3,a4,a5,a6,a7⟩
 ·rcases own C q1 q2 with⟨b1,b2,w,hw,b3,b4,b5⟩|⟨j',d,ss',l',s',i',b1,b2,b3,b4,b5,b6,b7⟩
  ·have:=ga.gZ hu hw a4 a5 b4 b5;subst this;unfold Pc.key;rw[z,a1,b1,a3,b3]
  ·have:=b3.lt;omega
 ·rcases own C q1 q2 with⟨b1,b2,w,hw,b3,b4,b5⟩|⟨j',d,ss',l',s',i',b1,b2,b3,b4,b5,b6,b7⟩
  ·have:=a3.lt;omega
  ·have F:j=j':=by omega
   subst F;obtain⟨rfl,rfl⟩:=a3.eq b3;have:=UV (ga.cG j c b a3) a4 b4 a5 b5 (x:=x) O O O O;unfold Pc.key;rw[z,a1,b1,a6,b6,this.2.1,this.2.2]
theorem WI.size_pos (h:WI W){p:Pc}(hp:p∈W.held):8<=p.size/\p.size%8=0:=by
 obtain⟨A,i,m⟩:=h.hf p hp;have ga:=h.ga _ A i;rcases m with⟨_,_,r,hr,h1,h2⟩|⟨j,c,_,hc,h2,h3,_⟩
 ·have s:=ga.gU r hr;omega
 ·obtain⟨d,g,a,_⟩:=h3;have:d=c:=Option.some.inj (a.1.symm.trans hc);subst this;have b:=(ga.cG j _ g a).ok;unfold cA.ok at b;omega
theorem WI.len (h:WI W):W.held.length<=262144:=by
 have r:(W.held.map (·.addr)).Nodup:=by
  have s:=kS.1 h.hk;refine kS.2 λi j hi g d e=>?_;have a:i<W.held.length:=by simpa using hi
  have b:j<W.held.length:=by simpa using g
  refine s i j (by simpa using a) (by simpa using b) d ?_;simp only[sC]at e ⊢;have s1:=(h.size_pos (zt a)).1;have s2:=(h.size_pos (zt b)).1;rw[h.apart (zt a) (zt b) (x:=W.held[i].addr) (zE _) O O O]
 have:=BZ 262144 _ r λx u=>by
  obtain⟨p,m,rfl⟩:=zD.1 u;exact(h.jW m).1
 simpa using this
end Go.Ar
namespace Go.Ar
open Go.Vc (bU dA cO)
def my (live:List (Int×Bk))(k x:Int):Nat:=live.countP λe=>e.2.2.2.1==k&&e.1==x
def l6 (ls:List Li)(k x:Int):Nat:=if 0<=k then(ls.getD k.toNat iy).os.count x else 0
def ma (bs:List Bt)(k x:Int):Nat:=(bs.map λb=>if(b.1:Int)=k then b.2.count x else 0).sum
def jO (p:Option Ph)(k x:Int):Nat:=match p with
 | some (.dH s _)=>if k = -1/\x=s*256 then 1 else 0
 | _=>0
def gS (g:Th)(k x:Int):Nat:=l6 g.ls k x+ma g.bQ k x+jO g.ph k x
def sj (H:Hw)(k x:Int):Nat:=my H.live k x+(H.bR.map λg=>gS g k x).sum
def Um (held:List Pc)(k x:Int):Prop:=∃p∈held,p.eR=false/\p.cls=k/\(p.addr:Int)=x
open Classical in
noncomputable def lD (held:List Pc)(k x:Int):Nat:=if Um held k x then 1 else 0
theorem Lr (held:List Pc)(k x:Int):lD held k x<=1:=by unfold lD;split<;>omega
theorem DQ {held:List Pc}{k x:Int}(h:1<=lD held k x):Um held k x:=by
 unfold lD at h;split at h
 ·assumption
 ·omega
theorem Ub {held:List Pc}{k x:Int}(h:Um held k x):lD held k x=1:=by unfold lD;rw[zC h]
theorem KT {held:List Pc}{k x:Int}(h:¬Um held k x):lD held k x=0:=by unfold lD;rw[zB h]
theorem EW {l:List Int}(hn:l.Nodup)(x:Int):l.count x=if x∈l then 1 else 0:=by
 split
 ·rename_i h;have a:=Bz.1 hn x;have b:=Da.2 h;omega
 ·rename_i h;exact Am.2 h
theorem Cg {held held':List Pc}{cl:Int}{l:List Int}(hn:l.Nodup)(h0:∀x∈l,¬Um held cl x)(h:∀k x,Um held' k x↔Um held k x\/(k=cl/\x∈l))(k x:Int):lD held' k x=lD held k x+(if cl=k then l.count x else 0):=by
 by_cases hk:cl=k
 ·subst hk;rw[zC rfl,EW hn];by_cases hx:x∈l
  ·rw[zC hx,KT (h0 x hx),Ub ((h _ _).2 (.inr ⟨rfl,hx⟩))]
  ·rw[zB hx,kC];by_cases hu:Um held cl x
   ·rw[Ub hu,Ub ((h _ _).2 (.inl hu))]
   ·rw[KT hu,KT λa=>by rcases(h _ _).1 a with a|⟨_,a⟩;exact hu a;exact hx a]
 ·rw[zB hk,kC];by_cases hu:Um held k x
  ·rw[Ub hu,Ub ((h _ _).2 (.inl hu))]
  ·rw[KT hu,KT λa=>by rcases(h _ _).1 a with a|⟨a,_⟩;exact hu a;exact hk a.symm]
theorem Jl {held held':List Pc}{cl:Int}{l:List Int}(hn:l.Nodup)(h0:∀x∈l,Um held cl x)(h:∀k x,Um held' k x↔Um held k x/\¬(k=cl/\x∈l))(k x:Int):lD held k x=lD held' k x+(if cl=k then l.count x else 0):=by
 by_cases hk:cl=k
 ·subst hk;rw[zC rfl,EW hn];by_cases hx:x∈l
  ·rw[zC hx,Ub (h0 x hx),KT λa=>((h _ _).1 a).2 ⟨rfl,hx⟩]
  ·rw[zB hx,kC];by_cases hu:Um held cl x
   ·rw[Ub hu,Ub ((h _ _).2 ⟨hu,λa=>hx a.2⟩)]
   ·rw[KT hu,KT λa=>hu ((h _ _).1 a).1]
 ·rw[zB hk,kC];by_cases hu:Um held k x
  ·rw[Ub hu,Ub ((h _ _).2 ⟨hu,λa=>hk a.1.symm⟩)]
  ·rw[KT hu,KT λa=>hu ((h _ _).1 a).1]
theorem F3 {α:Type}(f:α->Nat):∀{l:List α} {t:Nat} {g:α} (g':α),l[t]?=some g->((l.set t g').map f).sum+f g=(l.map f).sum+f g'
 | [],t,g,g',h=>by simp at h
 | a::l,0,g,g',h=>by
  simp only[Ad,Option.some.injEq]at h;subst h;simp only[List.set_cons_zero,zR,oE];omega
 | a::l,t+1,g,g',h=>by
  have:=F3 f (l:=l) (t:=t) g' (by simpa using h);simp only[sX,zR,oE];omega
theorem Dw {α:Type}(f:α->Nat){l:List α}{g:α}(h:g∈l):f g<=(l.map f).sum:=by
 induction l with
 | nil=>simp at h
 | cons a l ih=>
  simp only[zR,oE];rcases zW.1 h with rfl|h
  ·omega
  ·have:=ih h;omega
theorem wS (ls:List Li)(k:Nat)(x:Int):l6 ls (k:Int) x=(ls.getD k iy).os.count x:=by
 unfold l6;rw[zC O,dG]
theorem EJ {ls:List Li}{j:Nat}(l:Li)(k:Nat)(h:j<ls.length):(ls.set j l).getD k iy=if k=j then l else ls.getD k iy:=by
 rw[zQ,oa];by_cases hkj:k=j
 ·subst hkj;simp[h]
 ·rw[zB hkj,zB (Ne.symm hkj),zQ]
theorem PJ {ls:List Li}{j:Nat}(l:Li)(h:j<ls.length)(k x:Int):l6 (ls.set j l) k x+(if(j:Int)=k then(ls.getD j iy).os.count x else 0)=l6 ls k x+(if(j:Int)=k then l.os.count x else 0):=by
 by_cases hk:0<=k
 ·obtain⟨k,rfl⟩:=zc hk;rw[wS,wS,EJ l k h];by_cases hjk:j=k
  ·subst hjk;simp;omega
  ·have:¬(j:Int)=(k:Int):=by omega
   rw[zB (Ne.symm hjk),zB this,zB this]
 ·unfold l6;rw[zB hk,zB hk,zB O,zB O]
theorem V5 (k x:Int):ma [] k x=0:=rfl
theorem Vr (b:Bt)(bs:List Bt)(k x:Int):ma (b::bs) k x=(if(b.1:Int)=k then b.2.count x else 0)+ma bs k x:=by
 unfold ma;rw[zR,oE]
theorem Fs (a b:List Bt)(k x:Int):ma (a++b) k x=ma a k x+ma b k x:=by
 unfold ma;rw[zj,List.sum_append]
theorem Jh {f:cA->Li->List Int×Li}(hf:∀c l x,(f c l).1.count x+(f c l).2.os.count x=l.os.count x){tb:List cA}{ls:List Li}(hl:ls.length=tb.length)(k x:Int):ma (KO f tb ls) k x+l6 (KI f tb ls) k x=l6 ls k x:=by
 have key:∀n,n<=tb.length->ma ((List.range n).filterMap λk=>match tb[k]?,ls[k]? with
  | some c,some l=>if(f c l).1=[]then none else some (k,(f c l).1)
  | _,_=>none) k x=if 0<=k/\k<(n:Int)then(match tb[k.toNat]?,ls[k.toNat]? with
  | some c,some l=>(f c l).1.count x
  | _,_=>0)else 0:=by
  intro n
  induction n with
  | zero=>intro _;rw[zB O];rfl
  | succ n i=>
   intro hn;have i:=i O;rw[qR,xI,Fs,i];have d:tb[n]?=some tb[n]:=cW O;have a:ls[n]?=some ls[n]:=cW O;have e:ma ([n].filterMap λk=>match tb[k]?,ls[k]? with
    | some c,some l=>if(f c l).1=[]then none else some (k,(f c l).1)
    | _,_=>none) k x=if(n:Int)=k then(f tb[n] ls[n]).1.count x else 0:=by
    rw[CD,d,a];simp only;by_cases he:(f tb[n] ls[n]).1=[]
    ·rw[zC he,he];simp[V5]
    ·rw[zB he];simp only[List.filterMap_nil,Vr,V5,kC]
   rw[e];by_cases b:0<=k/\k<(n:Int)
   ·rw[zC b,zB (show ¬(n:Int)=k by omega),kC,zC (show 0<=k/\k<((n+1:Nat):Int)from⟨b.1,O⟩)]
   ·rw[zB b,zH];by_cases g:(n:Int)=k
    ·subst g;rw[zC rfl,zC (show(0:Int)<=(n:Int)/\(n:Int)<((n+1:Nat):Int)from⟨O,O⟩),dG,d,a]
    ·rw[zB g,zB O]
 have b:=key tb.length (zE _);have e:KO f tb ls=(List.range tb.length).filterMap λk=>match tb[k]?,ls[k]? with
  | some c,some l=>if(f c l).1=[]then none else some (k,(f c l).1)
  | _,_=>none:=rfl
 rw[e,b];by_cases hk:0<=k
 ·obtain⟨k,rfl⟩:=zc hk;rw[wS,wS,dG];by_cases hkl:k<tb.length
  ·have d:tb[k]?=some tb[k]:=cW hkl;have a:ls[k]?=some ls[k]:=cW O;rw[zC ⟨O,O⟩,d,a];simp only;have:(KI f tb ls).getD k iy=(f tb[k] ls[k]).2:=by
    unfold KI;rw[zQ,BC,d,a];rfl
   rw[this,zQ,a];exact hf _ _ _
  ·rw[zB O,zH];have b:(KI f tb ls).getD k iy=iy:=by
    unfold KI;rw[zQ,zX (by rw[List.length_zipWith];omega)];rfl
   have g:ls.getD k iy=iy:=by rw[zQ,zX O];rfl
   rw[b,g]
 ·rw[zB O,zH];unfold l6;rw[zB hk,zB hk]
theorem DJ (m:Nat)(l:Li)(x:Int):(gJ m l).1.count x+(gJ m l).2.os.count x=l.os.count x:=by
 show(l.os.take m).count x+(l.os.drop m).count x=_;rw[←yq,oJ]
theorem Tu (c:cA)(l:Li)(x:Int):(Vv c l).1.count x+(Vv c l).2.os.count x=l.os.count x:=DJ _ l x
theorem Rl (c:cA)(l:Li)(x:Int):(Qe c l).1.count x+(Qe c l).2.os.count x=l.os.count x:=DJ _ l x
theorem WlQ (c:cA)(y:Int)(l:Li)(hl:l.os.length<=255)(x:Int):(dM c y l).1.count x+(dM c y l).2.os.count x=l.os.count x + [y].count x:=by
 have a:(eJ [y] l).os=l.os++[y]:=by
  unfold eJ;rw[zB aE]
 unfold dM;rw[zB O];split
 ·rw[a,List.count_nil,zH,yq]
 ·rw[DJ];have:(mN c (eJ [y] l)).os=(eJ [y] l).os:=by unfold mN;split<;>rfl
  rw[this,a,yq]
theorem JF {c:cA}{l l':Li}{y:Int}(h:KN c l=(some y,l'))(x:Int):l.os.count x=l'.os.count x + [y].count x:=by
 unfold KN at h;split at h
 ·simp at h
 ·rename_i z hz;cases h;have:l.os=l.os.dropLast++[y]:=by
   obtain⟨b,a⟩:=List.getLast?_eq_some_iff.1 hz;rw[a];simp
  conv=>lhs;rw[this]
  rw[yq]
theorem OM {c:cA}{l l':Li}(h:KN c l=(none,l')):l.os=[]/\l'.os=[]:=by
 unfold KN at h;split at h
 ·rename_i hz;have:l.os=[]:=by simpa using hz
  cases h;refine⟨this,?_⟩;split<;>exact this
 ·simp at h
theorem Cr {live:List (Int×Bk)}{x:Int}(b:Bk)(h:bU live x=none)(k y:Int):my (dA live x b) k y=my live k y+(if b.2.2.1=k then[x].count y else 0):=by
 have a:live.any (λe=>e.1==x)=false:=by
  rw[mC];intro e he hx;unfold bU at h;rw[sW,oI]at h;exact h e he hx
 unfold dA;rw[a,zB aA];unfold my;rw[List.countP_append]
 congr 1
 rw[wR,List.countP_nil,zH];by_cases h1:b.2.2.1=k
 ·by_cases h2:x=y
  ·subst h2;simp[h1]
  ·simp[h1,h2]
 ·simp[h1]
theorem Ay {live:List (Int×Bk)}{x:Int}{b:Bk}(h:bU live x=none){e:Int×Bk}:e∈dA live x b↔e∈live\/e=(x,b):=by
 have a:live.any (λe=>e.1==x)=false:=by
  rw[mC];intro e he hx;unfold bU at h;rw[sW,oI]at h;exact h e he hx
 unfold dA;rw[a,zB aA,zK,zN]
theorem y7 {live:List (Int×Bk)}{x:Int}{e:Int×Bk}:e∈cO live x↔e∈live/\e.1≠x:=by
 unfold cO;rw[zL];simp
theorem CG:∀{live:List (Int×Bk)} {x:Int} {b:Bk},(live.map (·.1)).Nodup->bU live x=some b->∀k y,my live k y=my (cO live x) k y+(if b.2.2.1=k then[x].count y else 0)
 | [],x,b,_,h,_,_=>by simp[bU]at h
 | e::l,x,b,hn,h,k,y=>by
  rw[zR,zr]at hn;by_cases he:e.1=x
  ·have hb:e.2=b:=by
    unfold bU at h;rw[List.find?_cons_of_pos (by simpa using he)]at h;simpa using h
   have hd:cO (e::l) x=l:=by
    unfold cO;rw[vj (by simpa using he),qU];intro a ha;have:a.1≠x:=λg=>hn.1 (zD.2 ⟨a,ha,g.trans he.symm⟩);simpa using this
   rw[hd];unfold my;rw[wR,hb,he]
   congr 1
   by_cases h1:b.2.2.1=k
   ·by_cases h2:x=y
    ·subst h2;simp[h1]
    ·simp[h1,h2]
   ·simp[h1]
  ·have i:bU l x=some b:=by
    unfold bU at h ⊢
    rwa [List.find?_cons_of_neg (by simpa using he)]at h
   have d:=CG hn.2 i k y;have hd:cO (e::l) x=e::cO l x:=by
    unfold cO;rw[vS (by simpa using he)]
   rw[hd];unfold my at d ⊢;rw[wR,wR,d];omega
theorem Ln {live:List (Int×Bk)}{e:Int×Bk}(h:e∈live):1<=my live e.2.2.2.1 e.1:=by
 unfold my;exact List.countP_pos_iff.2 ⟨e,h,by simp⟩
structure jI (s s':Sp):Prop where
 l:s'.st.length=s.st.length
 z:∀p,gf s'.st p=0↔gf s.st p=0
 w:s'.wd=s.wd
def iz (m:Nat)(g:Th):Prop:=match g.ph with
 | none=>g.bQ=[]
 | some (.take k)=>g.bQ=[]/\k<m
 | some (.cJ k w)=>g.bQ=[]/\k<m/\(g.li k).os=[]/\1<=w/\w<=32
 | some (.cL k w)=>g.bQ=[]/\k<m/\(g.li k).os=[]/\1<=w/\w<=32
 | some (.grow k w)=>g.bQ=[]/\k<m/\(g.li k).os=[]/\1<=w/\w<=32
 | some .fill=>∃k x xs,g.bQ=[(k,x::xs)]/\k<m/\(g.li k).os=[]/\xs.length<=128
 | some (.eO n)=>g.bQ=[]/\1<=n/\n<=64
 | some (.find x)=>g.bQ=[]/\iP x
 | some (.put k x)=>g.bQ=[(k,[x])]/\k<m
 | some .back=>g.bQ≠[]
 | some (.dH _ _)=>g.bQ=[]
 | some .drain=>g.bQ=[]
structure uO (m:Nat) (g:Th):Prop where
 ll:g.ls.length=m
 lo:∀l∈g.ls,fO l/\l.os.length<=128
 hb:∀b∈g.bQ,b.1<m/\b.2≠[]/\b.2.length<=256
 hl:g.bQ.length<=41
 ph:iz m g
def Lv (held:List Pc)(e:Int×Bk):Prop:=e.2.1=e.1/\∃p∈held,p.eR=false/\p.cls=e.2.2.2.1/\(p.addr:Int)=e.1/\e.2.2.1=(p.size:Int)/\e.2.2.2.2=(p.k:Int)
def Gv (held:List Pc)(s a:Int):Prop:=∃p∈held,p.eR=false/\p.cls = -1/\(p.addr:Int)=s*256/\a=(p.k:Int)
structure HI (H:Hw) (held:List Pc) (s0:Sp):Prop where
 wi:WI ⟨H.tb,s0,H.bY,held⟩
 nc:jI s0 H.sp
 cn:∀k x,sj H k x=lD held k x
 lk:(H.live.map (·.1)).Nodup
 lv:∀e∈H.live,Lv held e
 gv:∀g∈H.bR,∀s a,g.ph=some (.dH s a)->Gv held s a
 th:∀g∈H.bR,uO H.tb.length g
 ok:∀c∈H.tb,c.ok
 a1:1<=H.bY.length
 sl:H.sp.st.length=H.cf.aG
variable {H:Hw}{held:List Pc}{s0:Sp}{t k:Nat}{g:Th}{A:AR}
theorem jI.refl (s:Sp):jI s s:=⟨rfl,λ_=>Iff.rfl,rfl⟩
theorem HI.apart (h:HI H held s0){p q:Pc}(hp:p∈held)(hq:q∈held){x:Nat}(p1:p.addr<=x)(p2:x<p.addr+p.size)(q1:q.addr<=x)(q2:x<q.addr+q.size):p=q:=h.wi.apart hp hq p1 p2 q1 q2
theorem WI.same {W:Wd}(h:WI W){p q:Pc}(hp:p∈W.held)(hq:q∈W.held)(e:p.addr=q.addr):p=q:=by
 have a:=(h.size_pos hp).1;have b:=(h.size_pos hq).1;exact h.apart hp hq (x:=p.addr) (zE _) O O O
theorem WI.um {W:Wd}(h:WI W){p:Pc}(hp:p∈W.held){k x:Int}(hu:Um W.held k x)(e:(p.addr:Int)=x):p.eR=false/\p.cls=k:=by
 obtain⟨q,b,d,a,g⟩:=hu;obtain rfl:=h.same hp b O;exact⟨d,a⟩
theorem HI.m8 (h:HI H held s0){e:Int×Bk}(he:e∈H.live):Um held e.2.2.2.1 e.1:=by
 obtain⟨_,p,g,d,b,a,_⟩:=h.lv e he;exact⟨p,g,d,b,a⟩
theorem HI.pW (h:HI H held s0){g:Th}(hg:g∈H.bR)(k x:Int):gS g k x<=lD held k x:=by
 rw[←h.cn];unfold sj;have:=Dw (λg=>gS g k x) hg;omega
theorem HI.rE (h:HI H held s0){g:Th}(hg:g∈H.bR){k x:Int}(hc:1<=gS g k x):Um held k x:=DQ (kx hc (h.pW hg k x))
theorem HI.l0 (h:HI H held s0){g:Th}(hg:g∈H.bR){k x:Int}(hc:1<=gS g k x):bU H.live x=none:=by
 cases hm:bU H.live x with
 | none=>rfl
 | some b=>
  have a:=Z9 hm;have p:=h.rE hg hc;obtain⟨q,u,y,r,j⟩:=h.m8 a;have w:k=b.2.2.1:=by
   have:=(h.wi.um (W:=⟨H.tb,s0,H.bY,held⟩) u p j).2;exact this.symm.trans r
  have m:=Ln a;have d:=h.cn k x;have s:=Lr held k x;have i:=Dw (λg=>gS g k x) hg;simp only at m i;unfold sj at d;rw[w]at d s i hc;omega
theorem HI.uB (h:HI H held s0){x:Int}(hn:∀k,¬Um held k x):bU H.live x=none:=by
 cases hm:bU H.live x with
 | none=>rfl
 | some b=>exact(hn _ (h.m8 (Z9 hm))).elim
theorem HI.eY (h:HI H held s0)(hg:H.bR[t]?=some g){g':Th}{live':List (Int×Bk)}{s0' sp':Sp}{ars':List AR}{held':List Pc}(wi:WI ⟨H.tb,s0',ars',held'⟩)(nc:jI s0' sp')(hsl:sp'.st.length=H.sp.st.length)(hl:ars'.length=H.bY.length)
 (sub:∀p∈held',p.eR=false->p∈held\/∀k,¬Um held k (p.addr:Int))
 (cn:∀k x,my live' k x+gS g' k x+lD held k x=my H.live k x+gS g k x+lD held' k x)
 (lk:(live'.map (·.1)).Nodup) (lv:∀e∈live',e∈H.live\/Lv held' e) (gv:∀s a,g'.ph=some (.dH s a)->Gv held' s a) (th:uO H.tb.length g') :
 HI {H with live:=live',sp:=sp',bY:=ars',bR:=H.bR.set t g'} held' s0':=by
 have r:∀k x,sj {H with live:=live',sp:=sp',bY:=ars',bR:=H.bR.set t g'} k x=lD held' k x:=λk x=>by
  have i:=h.cn k x;have u:=cn k x;have b:=F3 (λg=>gS g k x) g' hg;unfold sj at i ⊢;simp only at b ⊢;omega
 have G:=(cX.1 hg).1;have bS:∀p∈held,p.eR=false->Um held' p.cls (p.addr:Int)->p∈held':=λp m E ⟨q,A,i,u,b⟩=>by
  rcases sub q A i with hs|hs
  ·have:q=p:=h.wi.same (W:=⟨H.tb,s0,H.bY,held⟩) hs m O;rw[←this];exact A
  ·exact(hs p.cls ⟨p,m,E,rfl,b.symm⟩).elim
 refine⟨wi,nc,r,lk,λe B=>?_,λw d s a m=>?_,λw d=>?_,h.ok,by simp only;rw[hl];exact h.a1,hsl.trans h.sl⟩
 ·rcases lv e B with he'|he'
  ·obtain⟨C,p,m,i,u,b,z⟩:=h.lv e he';refine⟨C,p,bS p m i ?_,i,u,b,z⟩;rw[u,b];apply DQ;rw[←r];have:1<=my live' e.2.2.2.1 e.1:=Ln B;unfold sj;simp only;omega
  ·exact he'
 ·rcases List.mem_iff_getElem?.1 d with⟨j,hj⟩;rcases VT hj with⟨rfl,rfl,_⟩|⟨hne,hj'⟩
  ·exact gv s a m
  ·obtain⟨p,y,i,u,b,z⟩:=h.gv w (zG hj') s a m;refine⟨p,bS p y i ?_,i,u,b,z⟩;rw[u,b];apply DQ;rw[←r];have D:=Dw (λg=>gS g (-1) (s*256)) d;have F:1<=gS w (-1) (s*256):=by unfold gS;rw[m];simp[jO]
   unfold sj;simp only at D ⊢;omega
 ·rcases List.mem_iff_getElem?.1 d with⟨j,hj⟩;rcases VT hj with⟨rfl,rfl,_⟩|⟨hne,hj'⟩
  ·exact th
  ·exact h.th w (zG hj')
theorem HI.kH (h:HI H held s0)(hg:H.bR[t]?=some g){g':Th}{live':List (Int×Bk)}(cn:∀k x,my live' k x+gS g' k x=my H.live k x+gS g k x)(lk:(live'.map (·.1)).Nodup)(lv:∀e∈live',e∈H.live\/Lv held e)
 (gv:∀s a,g'.ph=some (.dH s a)->Gv held s a) (th:uO H.tb.length g'):HI {H with live:=live',bR:=H.bR.set t g'} held s0:=
 h.eY hg h.wi h.nc rfl rfl (λp b _=>.inl b) (λk x=>by have:=cn k x;omega) lk lv gv th
theorem Nt {A:AR}{x:Int}:qg A x=true↔0<=x/\A.f x.toNat≠0:=by
 unfold qg AR.f gf;simp
theorem WI.owner {W:Wd}(h:WI W){p:Pc}(hp:p∈W.held){x:Nat}(h1:p.addr<=x)(h2:x<p.addr+p.size):Yf W.bY (x:Int)=(p.k:Int):=by
 obtain⟨A,b,_⟩:=h.hf p hp;have g:=h.p8 hp b h1 h2;have a:=(cX.1 b).1;have own:∀(j:Nat) (B:AR),W.bY[j]?=some B->(qg B ((x:Int)/256)=true↔j=p.k):=λj B d=>by
  have e:((x:Int)/256).toNat=x/256:=by omega
  rw[Nt,e];constructor
  ·rintro⟨_,hf⟩;exact h.one (x/256) j p.k B A d b hf O
  ·rintro rfl;rw[b]at d;cases d;exact⟨O,O⟩
 unfold Yf;rw[zB O];have hf:W.bY.findIdx? (λA=>qg A ((x:Int)/256))=some p.k:=by
  rw[n4];refine⟨a,(own p.k _ (cW a)).2 rfl,λj i=>?_⟩;have:=own j W.bY[j] (cW O);intro hx;have:=this.1 hx;omega
 rw[hf]
theorem HI.owner (h:HI H held s0){p:Pc}(hp:p∈held){x:Nat}(h1:p.addr<=x)(h2:x<p.addr+p.size):Yf H.bY (x:Int)=(p.k:Int):=h.wi.owner (W:=⟨H.tb,s0,H.bY,held⟩) hp h1 h2
theorem HI.qh (h:HI H held s0){p:Pc}(hp:p∈held):Yf H.bY (p.addr:Int)=(p.k:Int):=h.owner hp (zE _) (by have:=(h.wi.size_pos (W:=⟨H.tb,s0,H.bY,held⟩) hp).1;omega)
theorem HI.i63 (h:HI H held s0){k x:Int}(hu:Um held k x):iP x/\0<=x/\0<=Yf H.bY x:=by
 obtain⟨p,a,_,_,rfl⟩:=hu;have:=(h.wi.jW (W:=⟨H.tb,s0,H.bY,held⟩) a).1;refine⟨by unfold iP;omega,O,?_⟩;rw[h.qh a];omega
end Go.Ar
namespace Go.Ar
open Go.Vc (bU dA cO)
open Go.Bu (Zz)
structure KS (s s':Sp):Prop where
 l:s'.st.length=s.st.length
 k:∀p,gf s.st p≠0->gf s'.st p≠0/\∀w,w/32=p->s'.wd w=s.wd w
theorem KS.refl (s:Sp):KS s s:=⟨rfl,λp a=>⟨a,λ_ _=>rfl⟩⟩
theorem KS.trans {a b c:Sp}(h:KS a b)(k:KS b c):KS a c:=⟨k.l.trans h.l,λp d=>⟨(k.k p (h.k p d).1).1,λw g=>((k.k p (h.k p d).1).2 w g).trans ((h.k p d).2 w g)⟩⟩
variable {s s' sp sp' s0 s0':Sp}{A B:AR}{k:Nat}
theorem jI.mz (h:jI s s'):s'.st.map (λx=>decide (x=0))=s.st.map λx=>decide (x=0):=by
 refine zy λi=>?_;rw[zZ,zZ];have a:=h.z i;unfold gf at a;rw[zQ,zQ]at a;by_cases hi:i<s.st.length
 ·have b:i<s'.st.length:=by rw[h.l];exact hi
  rw[cW hi,cW b]at a ⊢;simp only[qX]at a;simp[a]
 ·have d:=h.l;rw[zX O,zX O]
theorem Om {l l':List Nat}(h:l'.map (λx=>decide (x=0))=l.map λx=>decide (x=0))(a m:Nat)(f:Bool->Bool):((l'.drop a).take m).any (λx=>f (decide (x=0)))=((l.drop a).take m).any λx=>f (decide (x=0)):=by
 have e:∀l:List Nat,((l.drop a).take m).any (λx=>f (decide (x=0)))=(((l.map λx=>decide (x=0)).drop a).take m).any f:=λl=>by
  rw[←List.map_drop,←List.map_take,List.any_map];rfl
 rw[e,e,h]
theorem jI.fE (h:jI s s')(a m:Int):fE s' a m=fE s a m:=by
 unfold Go.Ar.fE;rw[h.l];have:=Om h.mz a.toNat m.toNat (λb=>!b);have e:∀l:List Nat,l.any (λx=>x != 0)=l.any λx=>!decide (x=0):=λl=>by
  refine congrArg l.any (funext λx=>?_);cases x<;>rfl
 rw[e,e,this]
theorem jI.set (h:jI s s'){a m v:Nat}(hl:a+m<=s.st.length):jI (s.set a m v) (s'.set a m v):=by
 refine⟨by simp[Sp.set,Vt,h.l],λp=>?_,?_⟩
 ·show gf (gE s'.st a (a+m) v) p=0↔gf (gE s.st a (a+m) v) p=0;rw[vn (by rw[h.l];exact hl),vn hl];split
  ·exact Iff.rfl
  ·exact h.z p
 ·show(λw=>if a*32<=w/\w<(a+m)*32 then 0 else s'.wd w)=_
  rw[h.w];rfl
theorem OK {n:Nat}{a m:Int}(h:Zz n a m=true):a.toNat+m.toNat<=n:=by
 by_cases h0:0<=a/\0<=m
 ·obtain⟨a,rfl⟩:=zc h0.1;obtain⟨m,rfl⟩:=zc h0.2;rw[dG,dG];exact(U0.1 h).2
 ·exfalso;unfold Zz at h;simp at h;omega
theorem jI.fZ (h:jI s s')(a m:Int):jI (fZ s a m) (fZ s' a m):=by
 unfold Go.Ar.fZ;rw[h.fE];split
 ·rename_i h0;refine h.set ?_;unfold Go.Ar.fE at h0;split at h0
  ·rename_i hr;exact OK hr
  ·simp at h0
 ·exact h
theorem E0 (s:Sp)(a m:Nat):KS s (fZ s (a:Int) (m:Int)):=by
 by_cases h:fE s (a:Int) (m:Int)=0
 ·have u:=CI h;obtain⟨r,j,i,_⟩:=FW h;refine⟨r,λp g=>?_⟩;have b:¬(a<=p/\p<a+m):=λd=>g (u.2.2 p d.1 d.2);exact⟨by rw[j,zB b];exact g,λw x=>i w O⟩
 ·unfold fZ;rw[zB h];exact KS.refl s
theorem jI.dB (h:jI s s')(size:Nat):dB s' size=dB s size:=by
 unfold Go.Ar.dB;rw[h.l]
 congr 1
 funext x
 rw[h.fE]
theorem jI.dC (h:jI s s')(A:AR)(m a no:Nat):(dC A s' m a no).1=(dC A s m a no).1/\(dC A s' m a no).2.1=(dC A s m a no).2.1/\jI (dC A s m a no).2.2 (dC A s' m a no).2.2/\KS s' (dC A s' m a no).2.2:=by
 unfold Go.Ar.dC;split
 ·exact⟨rfl,rfl,h,KS.refl _⟩
 ·unfold Hm;rw[h.dB];cases hg:Go.Ar.dB s (KD (max m a))with
  | none=>exact⟨rfl,rfl,h,KS.refl _⟩
  | some x=>
   simp only;split
   ·exact⟨rfl,rfl,h.fZ _ _,E0 _ _ _⟩
   ·exact⟨rfl,rfl,h.fZ _ _,E0 _ _ _⟩
theorem jI.cP (h:jI s s')(A:AR)(k:Int):(cP A s' k).1=(cP A s k).1/\Vy A s' k=Vy A s k/\jI (cP A s k).2 (cP A s' k).2/\KS s' (cP A s' k).2:=by
 unfold Go.Ar.cP Vy;split
 ·split
  ·rename_i c ss _ _;obtain⟨g,d,a,b⟩:=h.dC A c.aG 1 (k.toNat+1);cases e1:Go.Ar.dC A s c.aG 1 (k.toNat+1)with
   | mk o1 r1=>cases e2:Go.Ar.dC A s' c.aG 1 (k.toNat+1)with
    | mk o2 r2=>
     obtain⟨j,p⟩:=r1;obtain⟨i,m⟩:=r2;rw[e1,e2]at g d a;rw[e2]at b;simp only at g d a b;subst g;subst d;cases o2<;>exact⟨rfl,rfl,a,b⟩
  ·exact⟨rfl,rfl,h,KS.refl _⟩
 ·exact⟨rfl,rfl,h,KS.refl _⟩
theorem jI.cC (h:jI s s')(A:AR)(m a:Int):(cC A s' m a).1=(cC A s m a).1/\Q3 A s' m a=Q3 A s m a/\QD A s' m a=QD A s m a/\jI (cC A s m a).2 (cC A s' m a).2/\KS s' (cC A s' m a).2:=by
 unfold Go.Ar.cC Q3 QD;split
 ·obtain⟨i,g,b,d⟩:=h.dC A m.toNat a.toNat 41;cases e1:Go.Ar.dC A s m.toNat a.toNat 41 with
  | mk o1 r1=>cases e2:Go.Ar.dC A s' m.toNat a.toNat 41 with
   | mk o2 r2=>
    obtain⟨p,u⟩:=r1;obtain⟨j,r⟩:=r2;rw[e1,e2]at i g b;rw[e2]at d;simp only at i g b d;subst i;subst g;cases o2<;>exact⟨rfl,rfl,rfl,b,d⟩
 ·exact⟨rfl,rfl,rfl,h,KS.refl _⟩
variable {W:Wd}
theorem My (h:WI W){cl:Int}{l:List Int}(ho:jx W.held k cl l=true)(c x:Int):Um (W.held.filter λp=>!eC k cl l p) c x↔Um W.held c x/\¬(c=cl/\x∈l):=by
 constructor
 ·rintro⟨p,hp,h1,h2,h3⟩;obtain⟨a,b⟩:=zL.1 hp;refine⟨⟨p,a,h1,h2,h3⟩,?_⟩;rintro⟨rfl,d⟩;obtain⟨q,i,g⟩:=(Vq.1 ho).1 x d;obtain⟨m,s,w,u⟩:=Vu.1 g;obtain rfl:=h.same (p:=p) (q:=q) a i O;have:eC k c l p=true:=QA.2 ⟨m,h2,by rw[h3];exact d⟩;rw[this]at b;cases b
 ·rintro⟨⟨p,hp,h1,h2,h3⟩,b⟩;refine⟨p,zL.2 ⟨hp,?_⟩,h1,h2,h3⟩;have:eC k cl l p=false:=nV.2 λd=>by
   obtain⟨_,r,j⟩:=QA.1 d;exact b ⟨h2.symm.trans r,by rw[←h3];exact j⟩
  rw[this];rfl
theorem ML {held:List Pc}{cl:Int}{l:List Int}(ho:jx held k cl l=true):∀x∈l,Um held cl x:=λx i=>by
 obtain⟨q,g,a⟩:=(Vq.1 ho).1 x i;obtain⟨m,b,j,d⟩:=Vu.1 a;exact⟨q,g,d,b,j⟩
theorem Ol (h:WI W){cl:Int}{l:List Int}(ho:jx W.held k cl l=true)(c x:Int):Um (Gm W.held k cl l true) c x↔Um W.held c x/\¬(c=cl/\x∈l):=by
 constructor
 ·rintro⟨p,hp,h1,h2,h3⟩;obtain⟨q,b,rfl⟩:=Ki.1 hp;by_cases hof:eC k cl l q=true
  ·rw[zC hof]at h1;cases h1
  ·rw[zB hof]at h1 h2 h3;refine⟨⟨q,b,h1,h2,h3⟩,?_⟩;rintro⟨rfl,hx⟩;obtain⟨r,j,a⟩:=(Vq.1 ho).1 x hx;obtain⟨i,m,u,s⟩:=Vu.1 a;obtain rfl:=h.same b j O;exact hof (QA.2 ⟨i,h2,by rw[h3];exact hx⟩)
 ·rintro⟨⟨p,hp,h1,h2,h3⟩,hn⟩;refine⟨p,Ki.2 ⟨p,hp,?_⟩,h1,h2,h3⟩;rw[zB];intro hx;obtain⟨_,g,d⟩:=QA.1 hx;exact hn ⟨h2.symm.trans g,by rw[←h3];exact d⟩
theorem PK {held:List Pc}{cl:Int}{l:List Int}:∀p∈Gm held k cl l true,p.eR=false->p∈held:=λp d a=>by
 obtain⟨q,b,rfl⟩:=Ki.1 d;by_cases hof:eC k cl l q=true
 ·rw[zC hof]at a;cases a
 ·rw[zB hof];exact b
theorem Τ (h:WI W)(hk:W.bY[k]?=some A){j:Nat}:(∀x∈YP A (j:Int),∀c,¬Um W.held c x)/\(YP A (j:Int)).Nodup/\(∀c x,Um (Gm W.held k j (YP A (j:Int)) false) c x↔Um W.held c x\/(c=j/\x∈YP A (j:Int))) ∧
 (∀p∈Gm W.held k j (YP A (j:Int)) false,p.eR=false->p∈W.held\/∀c,¬Um W.held c (p.addr:Int)):=by
 obtain⟨o,e1,e2,w,J,H⟩:=J6 (h.ga k A hk) (j:Int);rw[dG]at e2;have s:∀x∈YP A (j:Int),∃q∈W.held,q.k=k/\q.cls=j/\(q.addr:Int)=x/\q.eR=true:=λx b=>by
  have i:=e2 x b;obtain⟨t,ht,d⟩:=i;have m:j<A.tb.length:=by rw[←(h.ga k A hk).lt];exact(cX.1 ht).1
  obtain⟨c,z,F,u,B⟩:=(h.ga k A hk).cl m;have r:fU A j x:=(VL u).2 ((h.ga k A hk).mF j c z t u ht x d);obtain⟨q,a,q1,q2,q3⟩:=h.ht k A hk j x r;obtain⟨_,_,_,_,E⟩:=h.cls a q2 (by rw[q1];exact hk);exact⟨q,a,q1,q2,q3,E.2 (by rw[q3];exact⟨t,ht,d⟩)⟩
 have new:∀x∈YP A (j:Int),∀c,¬Um W.held c x:=λx b c y=>by
  obtain⟨q,a,_,_,q3,q4⟩:=s x b;have:=(h.um a y q3).1;rw[q4]at this;cases this
 refine⟨new,w,λc x=>⟨?_,?_⟩,λp g G=>?_⟩
 ·rintro⟨p,g,h1,h2,h3⟩;obtain⟨q,a,rfl⟩:=Ki.1 g;by_cases hof:eC k (j:Int) (YP A (j:Int)) q=true
  ·rw[zC hof]at h2 h3;obtain⟨_,C,D⟩:=QA.1 hof;exact .inr ⟨h2.symm.trans C,by rw[←h3];exact D⟩
  ·rw[zB hof]at h1 h2 h3;exact .inl ⟨q,a,h1,h2,h3⟩
 ·rintro(⟨p,g,h1,h2,h3⟩|⟨rfl,b⟩)
  ·refine⟨p,Ki.2 ⟨p,g,?_⟩,h1,h2,h3⟩;split
   ·rw[←h1]
   ·rfl
  ·obtain⟨q,a,q1,q2,q3,q4⟩:=s x b;refine⟨{q with eR:=false},Ki.2 ⟨q,a,?_⟩,rfl,q2,q3⟩;rw[zC (QA.2 ⟨q1,q2,by rw[q3];exact b⟩)]
 ·obtain⟨q,a,rfl⟩:=Ki.1 g;by_cases hof:eC k (j:Int) (YP A (j:Int)) q=true
  ·rw[zC hof];exact .inr (new _ (QA.1 hof).2.2)
  ·rw[zB hof];exact .inl a
theorem BI {tb:List cA}{bY:List AR}{sp:Sp}{held new:List Pc}(h:WI ⟨tb,sp,bY,held++new⟩):∀p∈new,∀c,¬Um held c (p.addr:Int):=by
 rintro p d c ⟨q,b,_,_,g⟩;have e:=h.same (p:=p) (q:=q) (oB _ d) (kO _ b) O;have a:=h.hk;simp only[zj]at a;rw[nB]at a;exact a.2.2 q.key (zD.2 ⟨q,b,rfl⟩) p.key (zD.2 ⟨p,d,rfl⟩) (by rw[e])
theorem FU {held new:List Pc}{cl:Int}{l:List Int}(h1:∀p∈new,p.eR=false/\p.cls=cl/\(p.addr:Int)∈l)(h2:∀x∈l,∃p∈new,(p.addr:Int)=x)(c x:Int):Um (held++new) c x↔Um held c x\/(c=cl/\x∈l):=by
 constructor
 ·rintro⟨p,b,a1,a2,a3⟩;rcases zK.1 b with b|b
  ·exact .inl ⟨p,b,a1,a2,a3⟩
  ·obtain⟨_,g,d⟩:=h1 p b;exact .inr ⟨a2.symm.trans g,by rw[←a3];exact d⟩
 ·rintro(⟨p,b,a⟩|⟨rfl,hx⟩)
  ·exact⟨p,kO _ b,a⟩
  ·obtain⟨p,b,e⟩:=h2 x hx;exact⟨p,oB _ b,(h1 p b).1,(h1 p b).2.1,e⟩
theorem Iq {tb:List cA}{bY:List AR}{sp:Sp}{held new:List Pc}(h:WI ⟨tb,sp,bY,held++new⟩):∀p∈held++new,p.eR=false->p∈held\/∀c,¬Um held c (p.addr:Int):=λp a _=>by
 rcases zK.1 a with a|a
 ·exact .inl a
 ·exact .inr (BI h p a)
theorem VE {ss:List cH}:∀{i:Nat},Zy ss i=none->∀k,k<i->∀s,ss[k]?=some s->¬s.many<s.tk.length
 | 0,_,k,hk,_,_=>by omega
 | i+1,h,k,hk,s,hs=>by
  unfold Zy at h;by_cases hki:k=i
  ·subst hki;rw[hs]at h;simp only at h;intro hlt;rw[zC hlt]at h;split at h
   ·split at h
    ·split at h<;>cases h
    ·cases h
   ·cases h
  ·cases hi:ss[i]? with
   | none=>
    rw[hi]at h;exact VE h k O s hs
   | some x=>
    rw[hi]at h;simp only at h;split at h
    ·split at h
     ·split at h
      ·split at h<;>cases h
      ·cases h
     ·exact VE (by assumption) k O s hs
    ·exact VE h k O s hs
theorem Whl (h:GA A)(hw:Ow A sp){j:Nat}(hE:Vy A sp (j:Int)=0){w:Nat}(h1:1<=w):Yz (cP A sp (j:Int)).1 (j:Int) (w:Int)≠[]:=by
 rcases Es h hw (j:Int)with⟨_,hn,_⟩|⟨j',c,ss,x,A1,sp1,hj,hk,hk1,_,e,hst,r1,r2,r3,_,hd,hS⟩
 ·exact(hn hE).elim
 ·obtain rfl:j=j':=by omega
  have a:Cl (cP A sp (j:Int)).1 j c (iv c ss x):=by
   rw[e];have g:Cl (dV A1 x c.aG (j+1)) j c ss:=hk1;exact Ht g _
  have D:=hS.ga.cG j c _ a;have b:(⟨x,List.replicate c.n false⟩:cH)∈iv c ss x:=V1.2 (.inl rfl);have p:(cP A sp (j:Int)).1.ck (j:Int)=true:=Gf.2 ⟨j,rfl,a.lt⟩;unfold Yz Kc V2;rw[p,zC rfl,zB (show ¬((w:Int)<0) by omega),zC rfl,dG,dG,a.1,a.2];simp only;obtain⟨w,rfl⟩:∃v,w=v+1:=⟨w-1,O⟩;cases ho:iZ c (iv c ss x)with
  | some r=>
   obtain⟨y,C⟩:=r;rw[Gk ho];simp
  | none=>
   exfalso;unfold iZ iR at ho;obtain⟨l,z⟩:=zP b;have m:=(cX.1 z).1;have u:(⟨x,List.replicate c.n false⟩:cH).many<(⟨x,List.replicate c.n false⟩:cH).tk.length:=by
    have:=D.ok.sU;simp[cH.many,Ag];omega
   cases hb:Zy (iv c ss x) (iv c ss x).length with
   | none=>exact VE hb l m _ z u
   | some i=>
    rw[hb]at ho;obtain⟨_,s,E,d⟩:=Kn hb;obtain⟨r,B,_⟩:=A5 d;simp only[E,B]at ho;cases ho
end Go.Ar
namespace Go.Ar
open Go.Vc (bU dA cO)
variable {H:Hw}{held:List Pc}{s0:Sp}{t k:Nat}{g:Th}{A:AR}{c:cA}
theorem QC {p:Ph}{H1:Hw}{g1:Th}{nx:Option Ph}{a e:Int}(ht:t<H.bR.length)(hs:WG H t p=({H1 with bR:=H.bR.set t g1},nx,a,e)):Kd H t p = {H1 with bR:=H.bR.set t {g1 with ph:=nx}}:=by
 unfold Kd;rw[hs];show Hw.dZ _ t _=_;rw[ZV (g:=g1) (by simp[ht])];simp only[nE]
structure iG (H:Hw) (t:Nat) (p:Ph):Prop where
 ok:wy H t p
 hi:∃held s0,HI (Kd H t p) held s0
 ks:KS H.sp (Kd H t p).sp
theorem iG.mk' {p:Ph}(hg:H.bR[t]?=some g)(hl:g.bQ.length<=41)(h1:vu H t p){H':Hw}{held':List Pc}{s0':Sp}(e:Kd H t p=H')(h2:HI H' held' s0')(h3:KS H.sp H'.sp):iG H t p:=
 ⟨⟨h1,λb a=>by rw[hg]at a;cases a;omega⟩,⟨held',s0',by rw[e];exact h2⟩,by rw[e];exact h3⟩
def Rq (tb:List cA)(g:Th):Ph->Int->Int->Prop
 | .take k,cl,sz=>cl=k/\∃c,tb[k]?=some c/\sz=c.size
 | .cJ k _,cl,sz=>cl=k/\∃c,tb[k]?=some c/\sz=c.size
 | .cL k _,cl,sz=>cl=k/\∃c,tb[k]?=some c/\sz=c.size
 | .grow k _,cl,sz=>cl=k/\∃c,tb[k]?=some c/\sz=c.size
 | .fill,cl,sz=>∃k xs r c,g.bQ=(k,xs)::r/\cl=k/\tb[k]?=some c/\sz=c.size
 | .eO m,cl,sz=>cl = -1/\sz=((m*256:Nat):Int)
 | _,_,_=>False
def pq (H:Hw)(t:Nat):Ph->Nat
 | .take _=>5
 | .cJ _ _=>4
 | .cL k w=>if Yz (H.eM t) (k:Int) (w:Int)=[]then 3 else 1
 | .grow _ _=>2
 | _=>0
def uD (H:Hw)(t:Nat)(p:Ph)(cl sz:Int):Prop:=
 (∃p' g',(WG H t p).2.1=some p'/\(Kd H t p).live=H.live/\(Kd H t p).bR[t]?=some g'/\Rq H.tb g' p' cl sz/\pq (Kd H t p) t p'<pq H t p) ∨
 ((WG H t p).2.1=none/\(WG H t p).2.2.2≠0/\(WG H t p).2.2.1=0/\(Kd H t p).live=H.live) ∨
 ((WG H t p).2.1=none/\(WG H t p).2.2.2=0/\bU H.live (WG H t p).2.2.1=none/\(Kd H t p).live=dA H.live (WG H t p).2.2.1 ((WG H t p).2.2.1,sz,cl,Yf (Kd H t p).bY (WG H t p).2.2.1))
theorem HI.mem (h:HI H held s0)(hg:H.bR[t]?=some g):g∈H.bR:=zG hg
theorem HI.kh (h:HI H held s0)(t:Nat):H.own t<H.bY.length:=wm _ (by have:=h.a1;omega)
theorem HI.eM (h:HI H held s0)(t:Nat):H.bY[H.own t]?=some (H.eM t):=by
 have a:=cW (h.kh t);rw[B2 a];exact a
theorem HI.sr (h:HI H held s0):H.tb.length<=40:=by
 have a:=h.eM 0;have:=(h.wi.ga _ _ a).tb;rw[h.wi.tb _ _ a]at this;exact this
theorem HI.cls (h:HI H held s0)(hk:k<H.tb.length):∃c,H.tb[k]?=some c/\c.ok:=⟨H.tb[k],cW hk,h.ok _ (zt hk)⟩
theorem uO.li {m:Nat}(h:uO m g)(hk:k<m):∃l,g.ls[k]?=some l/\g.li k=l/\fO l/\l.os.length<=128:=by
 have a:=cW (l:=g.ls) (i:=k) (by rw[h.ll];exact hk);have:=h.lo _ (zt (by rw[h.ll];exact hk));exact⟨_,a,yV a,this.1,this.2⟩
theorem uO.iq {m:Nat}(h:uO m g){l':Li}(h1:fO l')(h2:l'.os.length<=128):(g.ls.set k l').length=m/\∀l∈g.ls.set k l',fO l/\l.os.length<=128:=by
 refine⟨by rw[oP];exact h.ll,λl a=>?_⟩;rcases yX a with a|rfl
 ·exact h.lo l a
 ·exact⟨h1,h2⟩
theorem RZ {ls:List Li}{l':Li}{hs:List Bt}{ph:Option Ph}(hk:k<ls.length):(⟨ls.set k l',hs,ph⟩:Th).li k=l':=by
 unfold Th.li;rw[EJ l' k hk,zC rfl]
theorem HI.yk (h:HI H held s0){y:Int}(hu:Um held (k:Int) y)(hc:H.tb[k]?=some c):Lv held (y,(y,(c.size:Int),(k:Int),Yf H.bY y)):=by
 obtain⟨p,d,m,g,rfl⟩:=hu;obtain⟨A,i,_⟩:=h.wi.hf p d;obtain⟨c',b,j,_⟩:=h.wi.cls d g i;rw[h.wi.tb _ _ i]at b;have a:H.tb[k]?=some c':=b;rw[hc]at a;cases a;exact⟨rfl,p,d,m,g,rfl,by rw[j],by rw[h.qh d]⟩
theorem A8 {ls:List Li}{l:Li}(hl:ls[k]?=some l)(l':Li)(k' x:Int):l6 (ls.set k l') k' x+(if(k:Int)=k' then l.os.count x else 0)=l6 ls k' x+(if(k:Int)=k' then l'.os.count x else 0):=by
 have:=PJ l' (cX.1 hl).1 k' x;rw[zQ,hl]at this;exact this
theorem Sf {ls:List Li}{l:Li}(hl:ls[k]?=some l)(x:Int):l6 ls (k:Int) x=l.os.count x:=by
 rw[wS,zQ,hl];rfl
theorem Rn (h:HI H held s0)(hg:H.bR[t]?=some g)(hph:g.ph=some (.take k)){cl sz:Int}(hr:Rq H.tb g (.take k) cl sz):iG H t (.take k)/\uD H t (.take k) cl sz:=by
 have F:=(cX.1 hg).1;have b:=h.th g (h.mem hg);obtain⟨P,p⟩:g.bQ=[]/\k<H.tb.length:=by have:=b.ph;unfold iz at this;rw[hph]at this;exact this
 obtain⟨rfl,c,m,rfl⟩:=hr;have u:=h.ok c (zG m);obtain⟨l,hl,i,L,Q⟩:=b.li p;have d:=Ft u L;have j:=G3 hg;cases hT:KN c l with
 | mk o l'=>
  rw[hT]at d;cases o with
  | some y=>
   have w:WG H t (.take k)=({{H with live:=dA H.live y (y,(c.size:Int),(k:Int),Yf H.bY y)}with bR:=H.bR.set t {g with ls:=g.ls.set k l'}},none,y,0):=by
    simp only[WG,j,UG m,i,hT,V7,ZV hg,Th.iq]
   have e:=QC F w;have r:1<=gS g (k:Int) y:=by
    have:=JF hT y;rw[BW]at this;unfold gS;rw[Sf hl];omega
   have N:=h.rE (h.mem hg) r;have K:=h.l0 (h.mem hg) r;have B:l'.os.length<=128:=by
    have:l'.os.length<=l.os.length:=by
     unfold KN at hT;split at hT
     ·cases hT
     ·cases hT;simp
    omega
   obtain⟨ll,G⟩:=b.iq (k:=k) d B;have hi:=h.kH hg (g':={g with ls:=g.ls.set k l',ph:=none}) (live':=dA H.live y (y,(c.size:Int),(k:Int),Yf H.bY y)) (λD x=>by
    rw[Cr _ K];have E:=A8 hl l' D x;have V:=JF hT x;unfold gS;rw[hph];simp only[jO];by_cases hkk:(k:Int)=D
    ·simp only[hkk,zT]at E ⊢;omega
    ·simp only[hkk,jT]at E ⊢;omega)
    (Go.Vc.gY h.lk) (λR z=>by
     rcases(Ay K).1 z with z|rfl
     ·exact .inl z
     ·exact .inr (h.yk N m))
    (λs a M=>by cases M) ⟨ll,G,b.hb,b.hl,by unfold iz;exact P⟩
   refine⟨iG.mk' hg b.hl ⟨p,λU J A=>?_⟩ e hi (KS.refl _),.inr (.inr ?_)⟩
   ·rw[j,i,UG m,hT]at A;cases A;exact(h.i63 N).1
   ·rw[e,w];exact⟨rfl,rfl,K,rfl⟩
  | none=>
   have w:WG H t (.take k)=({H with bR:=H.bR.set t {g with ls:=g.ls.set k l'}},some (.cJ k (pR c l')),0,0):=by
    simp only[WG,j,UG m,i,hT,ZV hg,Th.iq]
   have e:=QC F w;obtain⟨o1,o2⟩:=OM hT;obtain⟨ll,G⟩:=b.iq (k:=k) d (by rw[o2];simp);have C:=d.nW;have S:1<=pR c l'/\pR c l'<=32:=by
    unfold cA.ok at u;unfold pR;simp only at C;omega
   have hi:=h.kH hg (g':={g with ls:=g.ls.set k l',ph:=some (.cJ k (pR c l'))}) (live':=H.live) (λD x=>by
    have E:=A8 hl l' D x;rw[o1,o2]at E;unfold gS;rw[hph];simp only[jO];omega) h.lk (λR z=>.inl z) (λs a M=>by cases M) ⟨ll,G,b.hb,b.hl,by
     unfold iz;exact⟨P,p,by rw[RZ (by rw[b.ll];exact p)];exact o2,S⟩⟩
   refine⟨iG.mk' hg b.hl ⟨p,λU J A=>?_⟩ e hi (KS.refl _),.inl ?_⟩
   ·rw[j,i,UG m,hT]at A;cases A
   ·rw[e,w];exact⟨_,_,rfl,rfl,zO F,⟨rfl,c,m,rfl⟩,by simp[pq]⟩
theorem G2 (h:GA A)(h0:QE A (k:Int)=0)(hc:A.tb[k]?=some c):∃x xs,YP A (k:Int)=x::xs/\xs.length+1=c.batch:=by
 have a:YP A (k:Int)=(match A.cR[k]? with
  | some t=>t.bs.getLast?.getD []
  | none=>[]):=by unfold YP;rw[zC h0,dG];rfl
 unfold QE at h0;rw[dG]at h0;split at h0
 ·split at h0
  ·rename_i t ht;split at h0
   ·cases h0
   ·rename_i hb;rw[ht]at a;simp only at a;have p:t.bs.getLast?=some (t.bs.getLast hb):=List.getLast?_eq_some_getLast hb;rw[p]at a;simp only[qX]at a;have:=h.pE k c t hc ht _ (List.getLast_mem hb);rw[←a]at this;have j:=h.cG;cases hx:YP A (k:Int)with
    | nil=>
     rw[hx]at this;have g:k<A.tb.length:=(cX.1 hc).1;obtain⟨i,m,_,b,_⟩:=h.cl g;have d:i=c:=Option.some.inj (b.1.symm.trans hc);have:=(h.cG k i m b).ok;unfold cA.ok at this;simp at *;subst d;omega
    | cons x xs=>exact⟨x,xs,rfl,by rw[hx]at this;simpa using this⟩
  ·cases h0
 ·cases h0
theorem SM (h:HI H held s0)(hg:H.bR[t]?=some g){w:Nat}(hph:g.ph=some (.cJ k w)){cl sz:Int}(hr:Rq H.tb g (.cJ k w) cl sz):iG H t (.cJ k w)/\uD H t (.cJ k w) cl sz:=by
 have C:=(cX.1 hg).1;have d:=h.th g (h.mem hg);obtain⟨J,B,p,U⟩:g.bQ=[]/\k<H.tb.length/\(g.li k).os=[]/\1<=w/\w<=32:=by have:=d.ph;unfold iz at this;rw[hph]at this;exact this
 obtain⟨rfl,c,i,rfl⟩:=hr;have E:=h.ok c (zG i);have m:=E;unfold cA.ok at m;have D:=h.eM t;have ga:=h.wi.ga _ _ D;have z:(H.eM t).tb[k]?=some c:=by rw[h.wi.tb _ _ D];exact i
 have K:vu H t (.cJ k w):=⟨B,λA=>by
  obtain⟨x,u,e,_⟩:=G2 ga A z;rw[e];simp⟩
 by_cases hcase:w=c.batch/\QE (H.eM t) (k:Int)=0
 ·obtain⟨rfl,A⟩:=hcase;obtain⟨x,u,L,Q⟩:=G2 ga A z;have r:WG H t (.cJ k c.batch)=({H.cE (H.own t) (Z0 (H.eM t) (k:Int))with bR:=H.bR.set t {g with bQ:=[(k,x::u)]}},some .fill,0,0):=by
   simp only[WG,UG i,zT,A,Km,L];rw[ZV (g:=g) (by exact hg),J];rfl
  have e:=QC (H1:=H.cE (H.own t) (Z0 (H.eM t) (k:Int))) C r;obtain⟨P,W,M,N⟩:=Τ h.wi D (j:=k);have wi:=h.wi.wL D (k:Int);have hi:=h.eY hg (g':={g with bQ:=[(k,x::u)],ph:=some .fill}) (live':=H.live) wi h.nc rfl (by simp[Wd.put]) N (λV y=>by
   rw[Cg W (λy R=>P y R _) M,L];unfold gS;rw[hph,J];simp only[jO,Vr,V5];omega) h.lk (λS F=>.inl F) (λs a G=>by cases G) ⟨d.ll,d.lo,λb hb=>by
    simp only[zN]at hb;subst hb;exact⟨B,by simp,by simp;omega⟩,by simp,by
    unfold iz;exact⟨k,x,u,rfl,B,p,O⟩⟩
  refine⟨iG.mk' hg d.hl K e hi (KS.refl _),.inl ?_⟩;rw[e,r];exact⟨_,_,rfl,rfl,zO C,⟨k,x::u,[],c,rfl,rfl,i,rfl⟩,by simp[pq]⟩
 ·have r:WG H t (.cJ k w)=({H with bR:=H.bR.set t g},some (.cL k w),0,0):=by
   have:H.bR.set t g=H.bR:=QQ hg;rw[this];simp only[WG,UG i];split
   ·split
    ·exact(hcase ⟨by assumption,by assumption⟩).elim
    ·rfl
   ·rfl
  have e:=QC C r;have hi:=h.kH hg (g':={g with ph:=some (.cL k w)}) (live':=H.live) (λV x=>by
   unfold gS;rw[hph];simp only[jO]) h.lk (λS F=>.inl F) (λs a G=>by cases G) ⟨d.ll,d.lo,d.hb,d.hl,by
    unfold iz;exact⟨J,B,p,U⟩⟩
  refine⟨iG.mk' hg d.hl K e hi (KS.refl _),.inl ?_⟩;rw[e,r];refine⟨_,_,rfl,rfl,zO C,⟨rfl,c,i,rfl⟩,?_⟩;simp only[pq];split<;>omega
theorem Rs (h:GA A)(j w:Nat):(Yz A (j:Int) (w:Int)).length<=w:=by
 unfold Yz;split
 ·rename_i h0;have a:A.ck (j:Int)=true:=by
   unfold Kc at h0;split at h0
   ·assumption
   ·cases h0
  obtain⟨i,hi,d⟩:=Gf.1 a;obtain⟨c,g,t,b,m⟩:=h.cl d;have:i=j:=by omega
  subst this;unfold V2;rw[dG,dG,b.1,b.2];exact(Gx w (h.cG i c g b)).2.2.1
 ·simp
theorem γ (H:Hw)(t:Nat)(B:AR)(h:H.own t<H.bY.length)(sp:Sp)(bR:List Th):Hw.eM {H.cE (H.own t) B with sp:=sp,bR:=bR} t=B:=by
 refine B2 ?_;have:Hw.own {H.cE (H.own t) B with sp:=sp,bR:=bR} t=H.own t:=by unfold Hw.own Hw.cE;simp
 rw[this];simp[Hw.cE,h]
theorem Υ (h:HI H held s0)(hg:H.bR[t]?=some g){w:Nat}(hph:g.ph=some (.cL k w)){cl sz:Int}(hr:Rq H.tb g (.cL k w) cl sz):iG H t (.cL k w)/\uD H t (.cL k w) cl sz:=by
 have C:=(cX.1 hg).1;have d:=h.th g (h.mem hg);obtain⟨G,D,m,N⟩:g.bQ=[]/\k<H.tb.length/\(g.li k).os=[]/\1<=w/\w<=32:=by have:=d.ph;unfold iz at this;rw[hph]at this;exact this
 obtain⟨rfl,c,K,rfl⟩:=hr;have J:=h.eM t;have ga:=h.wi.ga _ _ J;have wi:=h.wi.from J (k:Int) (w:Int);have i:=Rs ga k w;have u:=(I7 ga (k:Int) (w:Int)).2.2.1;cases hv:Yz (H.eM t) (k:Int) (w:Int)with
 | nil=>
  have r:WG H t (.cL k w)=({H.cE (H.own t) (YS (H.eM t) (k:Int) (w:Int))with bR:=H.bR.set t g},some (.grow k w),0,0):=by
   have:H.bR.set t g=H.bR:=QQ hg;rw[this];simp only[WG,hv,zT,Hw.cE]
  have e:=QC (H1:=H.cE (H.own t) (YS (H.eM t) (k:Int) (w:Int))) C r;rw[hv]at wi;simp only[ny,kb]at wi;have hi:=h.eY hg (g':={g with ph:=some (.grow k w)}) (live':=H.live) wi h.nc rfl (by simp[Wd.put]) (λp j _=>.inl j) (λQ y=>by
   unfold gS;rw[hph];simp only[jO]) h.lk (λM F=>.inl F) (λs a j=>by cases j) ⟨d.ll,d.lo,d.hb,d.hl,by
    unfold iz;exact⟨G,D,m,N⟩⟩
  refine⟨iG.mk' hg d.hl trivial e hi (KS.refl _),.inl ?_⟩;rw[e,r];exact⟨_,_,rfl,rfl,zO C,⟨rfl,c,K,rfl⟩,by simp[pq,hv]⟩
 | cons v vs=>
  have r:WG H t (.cL k w)=({H.cE (H.own t) (YS (H.eM t) (k:Int) (w:Int))with bR:=H.bR.set t {g with bQ:=[(k,(v::vs).map λ(x:Nat)=>(x:Int))]}},some .fill,0,0):=by
   simp only[WG,hv,Km];rw[zB aA,ZV (g:=g) (by exact hg),G];rfl
  have e:=QC (H1:=H.cE (H.own t) (YS (H.eM t) (k:Int) (w:Int))) C r;rw[hv]at wi i u;have A:((v::vs).map λ(x:Nat)=>(x:Int)).Nodup:=List.Pairwise.map (R:=(· ≠ ·)) _ (λa b E e=>E O) u;have app:=FU (held:=held) (new:=(v::vs).map λy=>(⟨H.own t,(k:Int),y,oR H.tb (k:Int),false⟩:Pc)) (cl:=(k:Int)) (l:=(v::vs).map λ(x:Nat)=>(x:Int)) (λp j=>by
   obtain⟨y,B,rfl⟩:=zD.1 j;exact⟨rfl,rfl,zD.2 ⟨y,B,rfl⟩⟩) λx L=>by
   obtain⟨y,B,rfl⟩:=zD.1 L;exact⟨_,zD.2 ⟨y,B,rfl⟩,rfl⟩
  have new:=BI wi;have hi:=h.eY hg (g':={g with bQ:=[(k,(v::vs).map λ(x:Nat)=>(x:Int))],ph:=some .fill}) (live':=H.live) wi h.nc rfl (by simp[Wd.put]) (Iq wi) (λQ y=>by
   rw[Cg A (λy B=>by
    obtain⟨z,P,rfl⟩:=zD.1 B;exact new ⟨H.own t,(k:Int),z,oR H.tb (k:Int),false⟩ (zD.2 ⟨z,P,rfl⟩) _) app]
   unfold gS;rw[hph,G];simp only[jO,Vr,V5];omega) h.lk (λM F=>.inl F) (λs a j=>by cases j) ⟨d.ll,d.lo,λb hb=>by
    simp only[zN]at hb;subst hb;exact⟨D,by simp,by simp at i ⊢;omega⟩,by simp,by
    unfold iz;exact⟨k,(v:Int),vs.map λ(x:Nat)=>(x:Int),rfl,D,m,by simp at i ⊢;omega⟩⟩
  refine⟨iG.mk' hg d.hl trivial e hi (KS.refl _),.inl ?_⟩;rw[e,r];refine⟨_,_,rfl,rfl,zO C,⟨k,_,[],c,rfl,rfl,K,rfl⟩,?_⟩;simp[pq,hv]
theorem Sm (h:HI H held s0)(hg:H.bR[t]?=some g){w:Nat}(hph:g.ph=some (.grow k w)){cl sz:Int}(hr:Rq H.tb g (.grow k w) cl sz):iG H t (.grow k w)/\uD H t (.grow k w) cl sz:=by
 have z:=(cX.1 hg).1;have b:=h.th g (h.mem hg);obtain⟨D,E,u,B⟩:g.bQ=[]/\k<H.tb.length/\(g.li k).os=[]/\1<=w/\w<=32:=by have:=b.ph;unfold iz at this;rw[hph]at this;exact this
 obtain⟨rfl,c,G,rfl⟩:=hr;have A:=h.eM t;have ga:=h.wi.ga _ _ A;obtain⟨e1,e2,C,r⟩:=h.nc.cP (H.eM t) (k:Int);have wi:=h.wi.grow A (k:Int);by_cases h0:Vy (H.eM t) H.sp (k:Int)=0
 ·have m:WG H t (.grow k w)=({{H.cE (H.own t) (cP (H.eM t) H.sp (k:Int)).1 with sp:=(cP (H.eM t) H.sp (k:Int)).2}with bR:=H.bR.set t g},some (.cL k w),0,0):=by
   have:H.bR.set t g=H.bR:=QQ hg;rw[this];simp only[WG,h0,zT,Hw.cE]
  have e:=QC (H1:={H.cE (H.own t) (cP (H.eM t) H.sp (k:Int)).1 with sp:=(cP (H.eM t) H.sp (k:Int)).2}) z m;have d:=Whl ga (h.wi.ow _ _ A) (j:=k) (by rw[←e2];exact h0) B.1;rw[show(Wd.mk H.tb s0 H.bY held).sp=s0 from rfl,←e1]at d;rw[show(Wd.mk H.tb s0 H.bY held).sp=s0 from rfl,←e1]at wi;have hi:=h.eY hg (g':={g with ph:=some (.cL k w)}) (live':=H.live) wi C r.l (by simp[Wd.put]) (λp i _=>.inl i) (λJ y=>by
   unfold gS;rw[hph];simp only[jO]) h.lk (λF x=>.inl x) (λs a i=>by cases i) ⟨b.ll,b.lo,b.hb,b.hl,by
    unfold iz;exact⟨D,E,u,B⟩⟩
  refine⟨iG.mk' hg b.hl trivial e hi r,.inl ?_⟩;rw[e,m];refine⟨_,_,rfl,rfl,zO z,⟨rfl,c,G,rfl⟩,?_⟩;have:=γ H t (cP (H.eM t) H.sp (k:Int)).1 (h.kh t) (cP (H.eM t) H.sp (k:Int)).2 (H.bR.set t {g with ph:=some (.cL k w)});simp only[pq];rw[this,zB d];omega
 ·have m:WG H t (.grow k w)=({{H.cE (H.own t) (cP (H.eM t) H.sp (k:Int)).1 with sp:=(cP (H.eM t) H.sp (k:Int)).2}with bR:=H.bR.set t g},none,0,Vy (H.eM t) H.sp (k:Int)):=by
   have:H.bR.set t g=H.bR:=QQ hg;rw[this];simp only[WG,h0,jT,Hw.cE]
  have e:=QC (H1:={H.cE (H.own t) (cP (H.eM t) H.sp (k:Int)).1 with sp:=(cP (H.eM t) H.sp (k:Int)).2}) z m;rw[show(Wd.mk H.tb s0 H.bY held).sp=s0 from rfl,←e1]at wi;have hi:=h.eY hg (g':={g with ph:=none}) (live':=H.live) wi C r.l (by simp[Wd.put]) (λp i _=>.inl i) (λJ y=>by
   unfold gS;rw[hph];simp only[jO]) h.lk (λF x=>.inl x) (λs a i=>by cases i) ⟨b.ll,b.lo,b.hb,b.hl,by
    unfold iz;exact D⟩
  refine⟨iG.mk' hg b.hl trivial e hi r,.inr (.inl ?_)⟩;rw[e,m];exact⟨rfl,h0,rfl,rfl⟩
theorem O0 (h:HI H held s0)(hg:H.bR[t]?=some g)(hph:g.ph=some .fill){cl sz:Int}(hr:Rq H.tb g .fill cl sz):iG H t .fill/\uD H t .fill cl sz:=by
 have N:=(cX.1 hg).1;have j:=h.th g (h.mem hg);obtain⟨k,x,xs,z,F,i,R⟩:∃k x xs,g.bQ=[(k,x::xs)]/\k<H.tb.length/\(g.li k).os=[]/\xs.length<=128:=by have:=j.ph;unfold iz at this;rw[hph]at this;exact this
 obtain⟨k',V,r,c,A,rfl,K,rfl⟩:=hr;rw[z]at A;obtain⟨d, -⟩:=List.cons.inj A;obtain rfl:k=k':=congrArg Prod.fst d;obtain⟨l,hl,p,D,L⟩:=j.li F;have u:=G3 hg;rw[p]at i;have m:(eJ xs.reverse l).os=xs.reverse:=by unfold eJ;rw[i,zB aE];simp
 have G:WG H t .fill=({{H with live:=dA H.live x (x,(c.size:Int),(k:Int),Yf H.bY x)}with bR:=H.bR.set t {ls:=g.ls.set k (eJ xs.reverse l),bQ:=[],ph:=g.ph}},none,x,0):=by
  simp only[WG,u,z,UG K,V7,ZV hg,p]
 have e:=QC N G;have w:1<=gS g (k:Int) x:=by
  unfold gS;rw[z,Vr,zC rfl];have:1<=(x::xs).count x:=Da.2 aA;simp only;omega
 have J:=h.rE (h.mem hg) w;have B:=h.l0 (h.mem hg) w;obtain⟨M,P⟩:=j.iq (k:=k) (AM (xs:=xs.reverse) D) (by rw[m];simp;omega);have hi:=h.kH hg (g':={ls:=g.ls.set k (eJ xs.reverse l),bQ:=[],ph:=none}) (live':=dA H.live x (x,(c.size:Int),(k:Int),Yf H.bY x)) (λk' y=>by
  rw[Cr _ B];have E:=A8 hl (eJ xs.reverse l) k' y;rw[i,m,List.count_reverse,List.count_nil]at E;have W:(x::xs).count y=[x].count y+xs.count y:=yq (l₁:=[x]) (l₂:=xs);unfold gS;rw[hph,z];simp only[jO,Vr,V5];by_cases d:(k:Int)=k'
  ·simp only[d,zT]at E ⊢;omega
  ·simp only[d,jT]at E ⊢;omega)
  (Go.Vc.gY h.lk) (λU C=>by
   rcases(Ay B).1 C with C|rfl
   ·exact .inl C
   ·exact .inr (h.yk J K))
  (λs a S=>by cases S) ⟨M,P,λb Q=>by simp at Q,by simp,by unfold iz;rfl⟩
 refine⟨iG.mk' hg j.hl ⟨k,x,xs,[],by rw[u];exact z,F,(h.i63 J).1,by rw[u,p,i];simp;omega⟩ e hi (KS.refl _),.inr (.inr ?_)⟩;rw[e,G];exact⟨rfl,rfl,B,rfl⟩
theorem PA (h:HI H held s0)(hg:H.bR[t]?=some g){m:Nat}(hph:g.ph=some (.eO m)){cl sz:Int}(hr:Rq H.tb g (.eO m) cl sz):iG H t (.eO m)/\uD H t (.eO m) cl sz:=by
 have J:=(cX.1 hg).1;have b:=h.th g (h.mem hg);obtain⟨N,R,P⟩:g.bQ=[]/\1<=m/\m<=64:=by have:=b.ph;unfold iz at this;rw[hph]at this;exact this
 obtain⟨rfl,rfl⟩:=hr;have L:=h.eM t;have ga:=h.wi.ga _ _ L;obtain⟨e1,e2,U,K,D⟩:=h.nc.cC (H.eM t) (m:Int) 1;have wi:=h.wi.xU L (m:Int) 1;rw[show(Wd.mk H.tb s0 H.bY held).sp=s0 from rfl,←e1,←e2,←U]at wi;by_cases h0:Q3 (H.eM t) H.sp (m:Int) 1=0
 ·rw[zC h0]at wi;have j:=BI wi;have A:=FU (held:=held) (new:=[(⟨H.own t, -1,QD (H.eM t) H.sp (m:Int) 1*256,(m:Int).toNat*256,false⟩:Pc)]) (cl:=-1) (l:=[((QD (H.eM t) H.sp (m:Int) 1*256:Nat):Int)]) (λp d=>by
   simp only[zN]at d;subst d;exact⟨rfl,rfl,by simp⟩) λx B=>by
   simp only[zN]at B;subst B;exact⟨_,zN.2 rfl,rfl⟩
  have i:(⟨H.own t, -1,QD (H.eM t) H.sp (m:Int) 1*256,(m:Int).toNat*256,false⟩:Pc)∈held++[(⟨H.own t, -1,QD (H.eM t) H.sp (m:Int) 1*256,(m:Int).toNat*256,false⟩:Pc)]:=by simp
  have E:=wi.size_pos i;have u:=wi.jW i;have F:=wi.owner i (x:=QD (H.eM t) H.sp (m:Int) 1*256) (zE _) (by simp only at E ⊢;omega);generalize C:QD (H.eM t) H.sp (m:Int) 1=V at *;have r:bU H.live ((V*256:Nat):Int)=none:=h.uB λG Q=>j _ (zN.2 rfl) G Q;have w:WG H t (.eO m)=({{H.cE (H.own t) (cC (H.eM t) H.sp (m:Int) 1).1 with sp:=(cC (H.eM t) H.sp (m:Int) 1).2,live:=dA H.live ((V*256:Nat):Int) (((V*256:Nat):Int),((m*256:Nat):Int), -1,Yf (H.bY.set (H.own t) (cC (H.eM t) H.sp (m:Int) 1).1) ((V*256:Nat):Int))}with bR:=H.bR.set t g},none,((V*256:Nat):Int),0):=by
   have:H.bR.set t g=H.bR:=QQ hg;rw[this];simp only[WG,h0,zT,Hw.cE,V7,C]
  have e:=QC (H1:={H.cE (H.own t) (cC (H.eM t) H.sp (m:Int) 1).1 with sp:=(cC (H.eM t) H.sp (m:Int) 1).2,live:=dA H.live ((V*256:Nat):Int) (((V*256:Nat):Int),((m*256:Nat):Int), -1,Yf (H.bY.set (H.own t) (cC (H.eM t) H.sp (m:Int) 1).1) ((V*256:Nat):Int))}) J w;have hi:=h.eY hg (g':={g with ph:=none}) (live':=dA H.live ((V*256:Nat):Int) (((V*256:Nat):Int),((m*256:Nat):Int), -1,Yf (H.bY.set (H.own t) (cC (H.eM t) H.sp (m:Int) 1).1) ((V*256:Nat):Int))) wi K D.l (by simp[Wd.put]) (Iq wi) (λG y=>by
   rw[Cr _ r,Cg (l:=[((V*256:Nat):Int)]) (cl:=-1) aA (λy M=>by
    simp only[zN]at M;subst M;exact j _ (zN.2 rfl) _) A]
   unfold gS;rw[hph];simp only[jO];omega) (Go.Vc.gY h.lk) (λS z=>by
    rcases(Ay r).1 z with z|rfl
    ·exact .inl z
    ·refine .inr ⟨rfl,_,i,rfl,rfl,rfl,?_,?_⟩
     ·simp
     ·exact F) (λs a d=>by cases d) ⟨b.ll,b.lo,b.hb,b.hl,by
    unfold iz;exact N⟩
  refine⟨iG.mk' hg b.hl ?_ e hi D,.inr (.inr ?_)⟩
  ·show QD (H.eM t) H.sp (m:Int) 1<=1000000;rw[C];simp only at u;omega
  ·rw[e,w];exact⟨rfl,rfl,r,rfl⟩
 ·rw[zB h0]at wi;have C:QD (H.eM t) H.sp (m:Int) 1=0:=by
   unfold Q3 at h0;unfold QD;split
   ·rename_i d;rw[d,zC rfl]at h0;split at h0
    ·exact(h0 rfl).elim
    ·rename_i hn;cases B:(dC (H.eM t) H.sp (m:Int).toNat (1:Int).toNat 41).1 with
     | none=>rfl
     | some y=>rw[B]at hn;simp at hn
   ·rfl
  have w:WG H t (.eO m)=({{H.cE (H.own t) (cC (H.eM t) H.sp (m:Int) 1).1 with sp:=(cC (H.eM t) H.sp (m:Int) 1).2}with bR:=H.bR.set t g},none,0,Q3 (H.eM t) H.sp (m:Int) 1):=by
   have:H.bR.set t g=H.bR:=QQ hg;rw[this];simp only[WG,h0,jT,Hw.cE]
  have e:=QC (H1:={H.cE (H.own t) (cC (H.eM t) H.sp (m:Int) 1).1 with sp:=(cC (H.eM t) H.sp (m:Int) 1).2}) J w;have hi:=h.eY hg (g':={g with ph:=none}) (live':=H.live) wi K D.l (by simp[Wd.put]) (λp d _=>.inl d) (λG y=>by
   unfold gS;rw[hph];simp only[jO]) h.lk (λS z=>.inl z) (λs a d=>by cases d) ⟨b.ll,b.lo,b.hb,b.hl,by
    unfold iz;exact N⟩
  refine⟨iG.mk' hg b.hl ?_ e hi D,.inr (.inl ?_)⟩
  ·show QD (H.eM t) H.sp (m:Int) 1<=1000000;rw[C];omega
  ·rw[e,w];exact⟨rfl,h0,rfl,rfl⟩
theorem ND {W:Wd}(h:WI W)(hk:W.bY[k]?=some A){j:Nat}{l:List Int}(hl:∀x∈l,∃p∈W.held,mf k (j:Int) x p=true)(hn:l.Nodup)(hj:j<W.tb.length):Kw A (j:Int) l=0/\WI (W.put k (ZY A (j:Int) l) W.sp (W.held.filter λp=>!eC k (j:Int) l p)):=by
 have ga:=h.ga k A hk;have g:jx W.held k (j:Int) l=true:=Vq.2 ⟨hl,hn⟩;obtain⟨c,z,_,i,_⟩:=ga.cl (k:=j) (by rw[h.tb k A hk];exact hj);have d:Kw A (j:Int) l=0:=by
  rw[GV ga i];refine Ik ⟨λx r=>?_,hn⟩;obtain⟨p,w,b⟩:=hl x r;obtain⟨u,m,s,y⟩:=Vu.1 b;obtain⟨_,_,_,a,_⟩:=h.cls w m (by rw[u];exact hk);rw[s]at a;exact(VL i).1 a
 refine⟨d,?_⟩;have:=h.toC hk g;rw[zC d,h.AT g]at this;exact this
theorem Eo {xs:List Int}{tb:List cA}{ars0:List AR}(hH:H.tb=tb)(h:WI ⟨tb,s0,H.bY,held⟩)(hk:k<tb.length)(hxs:∀x∈xs,Um held (k:Int) x)(hn:xs.Nodup)(ha:∀p∈held,Yf ars0 (p.addr:Int)=(p.k:Int)):∀j,j<=H.bY.length →
 ∃ars',VR H k (Z8 ars0 xs) (List.range j) = {H with bY:=ars'}/\ars'.length=H.bY.length/\WI ⟨tb,s0,ars',held.filter λp=>!(decide (p.k<j)&&(p.cls==(k:Int)&&xs.contains (p.addr:Int)))⟩
 | 0,_=>by
  refine⟨H.bY,rfl,rfl,?_⟩;have:(held.filter λp=>!(decide (p.k<0)&&(p.cls==(k:Int)&&xs.contains (p.addr:Int))))=held:=qU.2 λp _=>by simp
  rw[this];exact h
 | j+1,hj=>by
  obtain⟨ars',e,w,s⟩:=Eo hH h hk hxs hn ha j O;rw[VJ,e];have y:ars'[j]?=some (ars'[j]' O):=cW _;simp only[y];have b:∀{p:Pc},p∈held->p.k=j->((p.addr:Int)∈Z8 ars0 xs j↔(p.addr:Int)∈xs):=λ{p} d a=>by
   unfold Z8;rw[zL,ha p d,a];simp
  have g:((held.filter λp=>!(decide (p.k<j)&&(p.cls==(k:Int)&&xs.contains (p.addr:Int)))).filter λp=>!eC j (k:Int) (Z8 ars0 xs j) p)=held.filter λp=>!(decide (p.k<j+1)&&(p.cls==(k:Int)&&xs.contains (p.addr:Int))):=by
   rw[Ea];apply vK;intro p d;have e1:eC j (k:Int) (Z8 ars0 xs j) p=(p.k==j&&(p.cls==(k:Int)&&xs.contains (p.addr:Int))):=by
    unfold eC;by_cases a:p.k=j
    ·have:=b d a;have e2:(Z8 ars0 xs j).contains (p.addr:Int)=xs.contains (p.addr:Int):=by
      rw[kW,Ax,Ax];exact this
     rw[e2]
    ·have:(p.k==j)=false:=by simpa using a
     rw[this];rfl
   rw[e1];have z:decide (p.k<j+1)=(decide (p.k<j)||p.k==j):=by
    rw[kW];simp;omega
   rw[z];cases p.k==j<;>cases decide (p.k<j)<;>cases(p.cls==(k:Int)&&xs.contains (p.addr:Int))<;>rfl
  by_cases d:Z8 ars0 xs j=[]
  ·rw[zC d];refine⟨ars',rfl,w,?_⟩;rw[←g,d];have:∀p:Pc,(!eC j (k:Int) [] p)=true:=λp=>by simp[eC]
   rw[qU.2 λp _=>this p];exact s
  ·rw[zB d];refine⟨ars'.set j (ZY (ars'[j]' O) (k:Int) (Z8 ars0 xs j)),by simp[Hw.cE],by simp[w],?_⟩;rw[←g];refine(ND s y (j:=k) (l:=Z8 ars0 xs j) (λx u=>?_) (hn.sublist tP) hk).2;unfold Z8 at u;obtain⟨m,i⟩:=zL.1 u;obtain⟨p,d,B,A,r⟩:=hxs x m;have a:p.k=j:=by
    have:=ha p d;rw[r]at this;rw[this]at i;have:(p.k:Int)=(j:Int):=by simpa using i
    omega
   exact⟨p,zL.2 ⟨d,by simp[a]⟩,Vu.2 ⟨a,A,r,B⟩⟩
theorem Ov {tb:List cA}(hH:H.tb=tb)(h:WI ⟨tb,s0,H.bY,held⟩){own:Nat}(hown:own<H.bY.length)(hk:k<tb.length){xs:List Int}(hxs:∀x∈xs,Um held (k:Int) x)(hn:xs.Nodup) :
 ∃ars' held',Gz H own k xs = {H with bY:=ars'}/\ars'.length=H.bY.length/\WI ⟨tb,s0,ars',held'⟩/\(∀c x,Um held' c x↔Um held c x/\¬(c=(k:Int)/\x∈xs))/\∀p∈held',p.eR=false->p∈held:=by
 have u:H.bY[own]?=some H.bY[own]:=cW hown;have w:∀p∈held,Yf H.bY (p.addr:Int)=(p.k:Int):=λp a=>h.owner a (zE _) (by have:=(h.size_pos a).1;omega);have all:∃ars' held',VR H k (Z8 H.bY xs) (List.range H.bY.length) = {H with bY:=ars'}/\ars'.length=H.bY.length/\WI ⟨tb,s0,ars',held'⟩/\(∀c x,Um held' c x↔Um held c x/\¬(c=(k:Int)/\x∈xs))/\∀p∈held',p.eR=false->p∈held:=by
  obtain⟨ars',e,s,j⟩:=Eo hH h hk hxs hn w H.bY.length (zE _);refine⟨ars',_,e,s,j,λc x=>?_,λp a _=>(zL.1 a).1⟩;constructor
  ·rintro⟨p,a,i,g,d⟩;obtain⟨a,hf⟩:=zL.1 a;refine⟨⟨p,a,i,g,d⟩,?_⟩;rintro⟨rfl,b⟩;obtain⟨B,A,_⟩:=h.hf p a;have m:p.k<H.bY.length:=(cX.1 A).1;rw[g,d]at hf;simp[m,b]at hf
  ·rintro⟨⟨p,a,i,g,d⟩,hno⟩;refine⟨p,zL.2 ⟨a,?_⟩,i,g,d⟩;rw[g,d];by_cases hc:c=(k:Int)
   ·have:x∉xs:=λb=>hno ⟨hc,b⟩;simp[this]
   ·simp[hc]
 unfold Gz;rw[u];simp only;by_cases hcond:(Z8 H.bY xs own).length=xs.length/\VI H.bY[own] (k:Int) xs=true
 ·rw[zC hcond];have r:∀x∈xs,Yf H.bY x=(own:Int):=by
   have i:Z8 H.bY xs own=xs:=by
    unfold Z8 at hcond ⊢;exact List.filter_sublist.eq_of_length hcond.1
   intro x b;rw[←i]at b;unfold Z8 at b;simpa using(zL.1 b).2
  have y:jx held own (k:Int) xs=true:=Vq.2 ⟨λx b=>by
   obtain⟨p,a,i,g,d⟩:=hxs x b;have C:=w p a;rw[d,r x b]at C;exact⟨p,a,Vu.2 ⟨O,g,d,i⟩⟩,hn⟩
  have j:=h.Su u y;rw[zC hcond.2]at j;exact⟨_,_,rfl,by simp[Hw.cE],j,Ol h y,PK⟩
 ·rw[zB hcond];have e:(if(Z8 H.bY xs own).length=xs.length then H.cE own (KG H.bY[own] (k:Int) xs)else H)=H:=by
   split
   ·rename_i s;have z:VI H.bY[own] (k:Int) xs=false:=by
     apply nV.2;intro b;exact hcond ⟨s,b⟩
    have:KG H.bY[own] (k:Int) xs=H.bY[own]:=by unfold KG;rw[z];rfl
    rw[this];exact Io u
   ·rfl
  rw[e];exact all
def lR:Ph->Prop
 | .find _=>True
 | .put _ _=>True
 | .back=>True
 | .dH _ _=>True
 | .drain=>True
 | _=>False
def qE (g:Th):Ph->Nat
 | .find _=>101
 | .put _ _=>100
 | .drain=>100
 | .back=>g.bQ.length
 | _=>0
def nI (H:Hw)(t:Nat)(g:Th)(p:Ph):Prop:=(WG H t p).2.2.1=0 ∧
 ((∃p' g',(WG H t p).2.1=some p'/\lR p'/\(∀x,p'≠.find x)/\(Kd H t p).bR[t]?=some g'/\qE g' p'<qE g p)\/(WG H t p).2.1=none) ∧
 ((∀x,p≠.find x)->(WG H t p).2.2.2=0/\(Kd H t p).live=H.live) ∧
 (∀x,p=.find x->(bU H.live x=none->(WG H t p).2.1=none/\(WG H t p).2.2.2≠0/\(Kd H t p).live=H.live)/\(∀b,bU H.live x=some b->(WG H t p).2.2.2=0/\(Kd H t p).live=cO H.live x))
theorem Dh (hg:H.bR[t]?=some g):j8 H t=if g.bQ=[]then none else some .back:=by unfold j8;rw[hg]
theorem O5 (h:HI H held s0)(hg:H.bR[t]?=some g){x:Int}(hph:g.ph=some (.find x)):iG H t (.find x)/\nI H t g (.find x):=by
 have D:=(cX.1 hg).1;have d:=h.th g (h.mem hg);obtain⟨N,C⟩:g.bQ=[]/\iP x:=by have:=d.ph;unfold iz at this;rw[hph]at this;exact this
 have P:∀A∈H.bY,iQ A:=λA Q=>by
  obtain⟨j,Z⟩:=zP Q;exact(h.wi.ga j A Z).pK
 cases hm:bU H.live x with
 | none=>
  have w:WG H t (.find x)=({H with bR:=H.bR.set t g},none,0,mb H x):=by
   have:H.bR.set t g=H.bR:=QQ hg;rw[this];simp only[WG,Hu,hm]
  have e:=QC D w;have hi:=h.kH hg (g':={g with ph:=none}) (live':=H.live) (λL x=>by
   unfold gS;rw[hph];simp only[jO]) h.lk (λX G=>.inl G) (λs a M=>by cases M) ⟨d.ll,d.lo,d.hb,d.hl,by
    unfold iz;exact N⟩
  refine⟨iG.mk' hg d.hl ⟨C,λ_=>P,λb hb=>by rw[hm]at hb;cases hb⟩ e hi (KS.refl _),?_⟩;unfold nI;rw[e,w];refine⟨rfl,.inr rfl,λi=>(i x rfl).elim,λy m=>?_⟩;cases m;refine⟨λ_=>⟨rfl,?_,rfl⟩,(λb hb=>by rw[hm]at hb;cases hb)⟩;show mb H x≠0;unfold mb
  repeat' split
  all_goals simp
 | some b=>
  have R:=Z9 hm;obtain⟨_,p,M,h1,U,W,h4,Y⟩:=h.lv _ R;simp only at U W h4 Y;have S:0<=x:=by omega
  obtain⟨A,Q,hd⟩:=h.wi.hf p M;have V:vu H t (.find x):=⟨C,(λi=>by rw[hm]at i;cases i),λ_ _=>S⟩;rcases hd with⟨c1,_,r,hr,c2,c3⟩|⟨j,c,c1,c2,c3,_⟩
  ·have E:b.2.2.1 = -1:=by rw[←U,c1]
   have w:WG H t (.find x)=({{H with live:=cO H.live x}with bR:=H.bR.set t g},some (.dH (x/256) b.2.2.2),0,0):=by
    have:H.bR.set t g=H.bR:=QQ hg;rw[this];simp only[WG,Hu,hm];rw[zC O]
   have e:=QC (H1:={H with live:=cO H.live x}) D w;have u:x/256*256=x:=by omega
   have hi:=h.kH hg (g':={g with ph:=some (.dH (x/256) b.2.2.2)}) (live':=cO H.live x) (λL y=>by
    have z:=CG h.lk hm L y;rw[E]at z;unfold gS;rw[hph];simp only[jO,u];by_cases m:x=y
    ·subst m;rw[BW]at z;by_cases hk : -1=L
     ·rw[zC hk]at z;rw[zC ⟨hk.symm,rfl⟩];omega
     ·rw[zB hk]at z;rw[zB (λC=>hk C.1.symm)];omega
    ·have:[x].count y=0:=Am.2 aE;rw[this]at z;rw[zB (λC=>m C.2.symm)];split at z<;>omega)
    (Go.Vc.ju h.lk) (λX G=>.inl (y7.1 G).1) (λs a B=>by
     cases B;exact⟨p,M,h1,c1,by rw[u];exact W,Y⟩) ⟨d.ll,d.lo,d.hb,d.hl,by
      unfold iz;exact N⟩
   refine⟨iG.mk' hg d.hl V e hi (KS.refl _),?_⟩;unfold nI;rw[e,w];refine⟨rfl,.inl ⟨_,_,rfl,trivial,(λy m=>by cases m),zO D,by simp[qE]⟩,λi=>(i x rfl).elim,λy m=>?_⟩;cases m;exact⟨(λi=>by rw[hm]at i;cases i),λ_ _=>⟨rfl,rfl⟩⟩
  ·have J:b.2.2.1=(j:Int):=by rw[←U,c1]
   have F:j<H.tb.length:=by
    rw[h.wi.tb _ _ Q]at c2;exact(cX.1 c2).1
   have w:WG H t (.find x)=({{H with live:=cO H.live x}with bR:=H.bR.set t {g with bQ:=[(j,[x])]}},some (.put j x),0,0):=by
    simp only[WG,Hu,hm];rw[zB O,J,dG];unfold Km;rw[ZV (g:=g) (by exact hg),N];rfl
   have e:=QC (H1:={H with live:=cO H.live x}) D w;have hi:=h.kH hg (g':={g with bQ:=[(j,[x])],ph:=some (.put j x)}) (live':=cO H.live x) (λL y=>by
    have z:=CG h.lk hm L y;rw[J]at z;unfold gS;rw[hph,N];simp only[jO,Vr,V5];omega)
    (Go.Vc.ju h.lk) (λX G=>.inl (y7.1 G).1) (λs a B=>by cases B) ⟨d.ll,d.lo,λb' K=>by
     simp only[zN]at K;subst K;exact⟨F,by simp,by simp⟩,by simp,by
     unfold iz;exact⟨rfl,F⟩⟩
   refine⟨iG.mk' hg d.hl V e hi (KS.refl _),?_⟩;unfold nI;rw[e,w];refine⟨rfl,.inl ⟨_,_,rfl,trivial,(λy m=>by cases m),zO D,by simp[qE]⟩,λi=>(i x rfl).elim,λy m=>?_⟩;cases m;exact⟨(λi=>by rw[hm]at i;cases i),λ_ _=>⟨rfl,rfl⟩⟩
theorem Jd {f:cA->Li->List Int×Li}{tb:List cA}{ls:List Li}{b:Bt}(h:b∈KO f tb ls):b.1<tb.length/\b.2≠[]/\∃c∈tb,∃l∈ls,b.2=(f c l).1:=by
 unfold KO at h;obtain⟨k,d,a⟩:=wX.1 h;split at a
 ·rename_i c l hc hl;split at a
  ·cases a
  ·cases a;exact⟨zg.1 d,by assumption,c,zG hc,l,zG hl,rfl⟩
 ·cases a
theorem Iz {f:cA->Li->List Int×Li}{tb:List cA}{ls:List Li}{l':Li}(h:l'∈KI f tb ls):∃c∈tb,∃l∈ls,l'=(f c l).2:=by
 unfold KI at h;obtain⟨i,hi⟩:=zP h;rw[BC]at hi;split at hi
 ·rename_i c l hc hl;cases hi;exact⟨c,zG hc,l,zG hl,rfl⟩
 ·cases hi
theorem Fy {f:cA->Li->List Int×Li}{tb:List cA}{ls:List Li}(h:ls.length=tb.length):(KI f tb ls).length=tb.length:=by
 unfold KI;rw[List.length_zipWith];omega
theorem Lx (c:cA)(l:Li):(Vv c l).2.os.length<=l.os.length/\(Vv c l).1.length<=l.os.length:=by
 simp only[Vv,gJ,ky,zY];omega
theorem EX (c:cA)(l:Li):(Qe c l).2.os.length<=l.os.length/\(Qe c l).1.length<=l.os.length:=by
 simp only[Qe,gJ,ky,zY];omega
theorem Nl (h:HI H held s0)(hg:H.bR[t]?=some g)(hph:g.ph=some .drain):iG H t .drain/\nI H t g .drain:=by
 have m:=(cX.1 hg).1;have d:=h.th g (h.mem hg);have J:g.bQ=[]:=by have:=d.ph;unfold iz at this;rw[hph]at this;exact this
 have z:=h.sr;have F:=Bw Qe H.tb g.ls;have r:WG H t .drain=({H with bR:=H.bR.set t {g with ls:=KI Qe H.tb g.ls,bQ:=KO Qe H.tb g.ls}},(if KO Qe H.tb g.ls=[]then none else some .back),0,0):=by
  simp only[WG,ZV hg];rw[Dh (g:={g with ls:=KI Qe H.tb g.ls,bQ:=KO Qe H.tb g.ls}) (by simp[m])]
 have e:=QC m r;have hi:=h.kH hg (g':={ls:=KI Qe H.tb g.ls,bQ:=KO Qe H.tb g.ls,ph:=if KO Qe H.tb g.ls=[]then none else some .back}) (live':=H.live) (λu x=>by
  have L:=Jh (f:=Qe) Rl d.ll u x;unfold gS;rw[hph,J];have:jO (if KO Qe H.tb g.ls=[]then none else some Ph.back) u x=0:=by split<;>rfl
  simp only[this,V5];simp only[jO];omega) h.lk (λK C=>.inl C) (λs a p=>by
   simp only at p;split at p<;>cases p) ⟨Fy d.ll,λl hl=>by
   obtain⟨c,_,j,i,rfl⟩:=Iz hl;have:=d.lo j i;have:=EX c j;exact⟨Win (d.lo j i).1,O⟩,λb B=>by
   obtain⟨w,E,c,_,j,i,G⟩:=Jd B;have:=d.lo j i;have:=EX c j;exact⟨w,E,by rw[G];omega⟩,by simp only;omega,by
   unfold iz;by_cases ho:KO Qe H.tb g.ls=[]
   ·rw[zC ho];exact ho
   ·rw[zB ho];exact ho⟩
 refine⟨iG.mk' hg d.hl trivial e hi (KS.refl _),?_⟩;unfold nI;rw[e,r];refine⟨rfl,?_,λ_=>⟨rfl,rfl⟩,λx A=>by cases A⟩;by_cases ho:KO Qe H.tb g.ls=[]
 ·exact .inr (by simp only;rw[zC ho])
 ·exact .inl ⟨.back,_,by simp only;rw[zB ho],trivial,(λy D=>by cases D),zO m,by simp only[qE];omega⟩
theorem M5 (h:HI H held s0)(hg:H.bR[t]?=some g){s a:Int}(hph:g.ph=some (.dH s a)):iG H t (.dH s a)/\nI H t g (.dH s a):=by
 have N:=(cX.1 hg).1;have b:=h.th g (h.mem hg);have U:g.bQ=[]:=by have:=b.ph;unfold iz at this;rw[hph]at this;exact this
 obtain⟨p,C,h1,S,V,Y⟩:=h.gv g (h.mem hg) s a hph;obtain⟨A,w,_⟩:=h.wi.hf p C;have m:H.bY[p.k]?=some A:=w;have P:=(cX.1 m).1;obtain⟨_,r,K,Z,W⟩:=h.wi.run C S w;have ga:=h.wi.ga _ _ w;have d:s=(r.1:Int):=by omega
 have L:VC A s=0:=by
  unfold VC;rw[zC];unfold qJ;rw[CA];exact⟨r,K,by simp[d]⟩
 have F:jx held p.k (-1) [s*256]=true:=by rw[d];exact h.wi.m9 w K
 have wi:=h.wi.yn w s;rw[zC L,h.wi.AT F]at wi;have z:a.toNat=p.k:=by omega
 have J:WG H t (.dH s a)=({H.cE p.k (Kb A s)with bR:=H.bR.set t g},none,0,0):=by
  have:H.bR.set t g=H.bR:=QQ hg;rw[this];simp only[WG,z,m,Hw.cE]
 have e:=QC (H1:=H.cE p.k (Kb A s)) N J;have hi:=h.eY hg (g':={g with ph:=none}) (live':=H.live) wi h.nc rfl (by simp[Wd.put]) (λq E _=>.inl (zL.1 E).1) (λy x=>by
  have i:=Jl (held':=held.filter λD=>!eC p.k (-1) [s*256] D) (l:=[s*256]) (cl:=-1) aA (ML F) (My h.wi F) y x;have i:lD held y x=lD (held.filter λD=>!eC p.k (-1) [s*256] D) y x+(if -1=y then[s*256].count x else 0):=i
  unfold gS;rw[hph];simp only[jO];by_cases hy:s*256=x
  ·subst hy;rw[BW]at i;by_cases hk : -1=y
   ·rw[zC hk]at i;rw[zC ⟨hk.symm,rfl⟩];omega
   ·rw[zB hk]at i;rw[zB (λu=>hk u.1.symm)];omega
  ·have:[s*256].count x=0:=Am.2 aE;rw[this]at i;rw[zB (λu=>hy u.2.symm)];split at i<;>omega) h.lk (λX Q=>.inl Q) (λs a C=>by cases C) ⟨b.ll,b.lo,b.hb,b.hl,by
   unfold iz;exact U⟩
 refine⟨iG.mk' hg b.hl ⟨O,O,λB R q E=>?_⟩ e hi (KS.refl _),?_⟩
 ·obtain⟨j,M⟩:=zP R;have G:=h.wi.ga j B M;have:=G.fit E;have:=G.pg.n2;omega
 ·unfold nI;rw[e,J];exact⟨rfl,.inr rfl,λ_=>⟨rfl,rfl⟩,λx u=>by cases u⟩
theorem Rw (h:HI H held s0)(hg:H.bR[t]?=some g)(hph:g.ph=some .back):iG H t .back/\nI H t g .back:=by
 have D:=(cX.1 hg).1;have d:=h.th g (h.mem hg);have S:g.bQ≠[]:=by have:=d.ph;unfold iz at this;rw[hph]at this;exact this
 have C:=G3 hg;cases hhd:g.bQ with
 | nil=>exact(S hhd).elim
 | cons b r=>
  obtain⟨k,z⟩:=b;obtain⟨J,B,F⟩:=d.hb (k,z) (by rw[hhd];simp);simp only at J B F;have m:∀x,z.count x<=gS g (k:Int) x:=λx=>by
   unfold gS;rw[hhd,Vr,zC rfl];simp only;omega
  have i:∀x∈z,Um held (k:Int) x:=λx u=>h.rE (h.mem hg) (kx (Da.2 u) (m x));have w:z.Nodup:=Bz.2 λx=>by
   have R:=m x;have W:=h.pW (h.mem hg) (k:Int) x;have U:=Lr held (k:Int) x;omega
  obtain⟨j,G,M,E,wi,um,sub⟩:=Ov (H:={H with bR:=H.bR.set t {g with bQ:=r}}) (tb:=H.tb) rfl h.wi (h.kh t) J i w;have K:WG H t .back=({{H with bY:=j}with bR:=H.bR.set t {g with bQ:=r}},(if r=[]then none else some .back),0,0):=by
   simp only[WG,C,hhd,ZV hg,M];rw[Dh (g:={g with bQ:=r}) (by simp[D])]
  have e:=QC (H1:={H with bY:=j}) D K;have hi:=h.eY hg (g':={g with bQ:=r,ph:=if r=[]then none else some .back}) (live':=H.live) wi h.nc rfl E (λp A N=>.inl (sub p A N)) (λL x=>by
   have R:=Jl w i um L x;unfold gS;rw[hph,hhd,Vr];have:jO (if r=[]then none else some Ph.back) L x=0:=by split<;>rfl
   simp only[this];simp only[jO];omega) h.lk (λV P=>.inl P) (λs a A=>by
    simp only at A;split at A<;>cases A) ⟨d.ll,d.lo,λb hb=>d.hb b (by rw[hhd];exact mu _ hb),by have:=d.hl;rw[hhd]at this;simp at this ⊢;omega,by
    unfold iz;by_cases ho:r=[]
    ·rw[zC ho];exact ho
    ·rw[zB ho];exact ho⟩
  refine⟨iG.mk' hg d.hl ⟨k,z,r,by rw[C];exact hhd,λx u=>⟨(h.i63 (i x u)).1,(h.i63 (i x u)).2.2⟩,O⟩ e hi (KS.refl _),?_⟩;unfold nI;rw[e,K];refine⟨rfl,?_,λ_=>⟨rfl,rfl⟩,λx u=>by cases u⟩;by_cases ho:r=[]
  ·exact .inr (by simp only;rw[zC ho])
  ·exact .inl ⟨.back,_,by simp only;rw[zB ho],trivial,(λy Q=>by cases Q),zO D,by simp only[qE];rw[hhd];simp⟩
theorem T2 (h:HI H held s0)(hg:H.bR[t]?=some g){x:Int}(hph:g.ph=some (.put k x)):iG H t (.put k x)/\nI H t g (.put k x):=by
 have B:=(cX.1 hg).1;have r:=h.th g (h.mem hg);obtain⟨L,J⟩:g.bQ=[(k,[x])]/\k<H.tb.length:=by have:=r.ph;unfold iz at this;rw[hph]at this;exact this
 obtain⟨c,hc,C⟩:=h.cls J;obtain⟨l,hl,R,F,hlm⟩:=r.li J;have G:=G3 hg;have h40:=h.sr;have S:=Wl2 (x:=x) C F;have Z:=WlQ c x l O;have W:(dM c x l).1.length<=129/\(dM c x l).2.os.length<=128:=by
  have ac:=F.lim;have w:(eJ [x] l).os=l.os++[x]:=by unfold eJ;rw[zB aE]
  have P:(mN c (eJ [x] l)).os=l.os++[x]:=by rw[←w];unfold mN;split<;>rfl
  unfold cA.ok at C;unfold dM;rw[zB O];split
  ·rw[w];simp;omega
  ·simp only[gJ,P,zY,ky,zJ,qP];omega
 obtain⟨N,Q⟩:=r.iq (k:=k) S W.2;have U:∃hs:List Bt,(if(dM c x l).1=[]then[]else[(k,(dM c x l).1)])=hs:=⟨_,rfl⟩
 obtain⟨i,j⟩:=U;have ab:i.length<=1:=by rw[←j];split<;>simp
 have z:∀b∈i,b.1<H.tb.length/\b.2≠[]/\b.2.length<=256:=λb m=>by
  rw[←j]at m;split at m
  ·simp at m
  ·simp only[zN]at m;subst m;exact⟨J,by assumption,by simp only;omega⟩
 have D:∀d y,ma i d y=if(k:Int)=d then(dM c x l).1.count y else 0:=λd y=>by
  rw[←j];split
  ·rename_i hn;rw[hn,V5];simp
  ·simp only[Vr,V5,kC]
 let g3:Th:={g with ls:=g.ls.set k (dM c x l).2,bQ:=i}
 let g4:Th:=if H.cf.dD<KC H.tb g3.ls then{g3 with ls:=KI Vv H.tb g3.ls,bQ:=g3.bQ++KO Vv H.tb g3.ls}else g3
 have aa:iC H t k x = {H with bR:=H.bR.set t g4}:=by
  have e2:(if(dM c x l).1=[]then H.dZ t λh=>h.iq k (dM c x l).2 else Km (H.dZ t λh=>h.iq k (dM c x l).2) t k (dM c x l).1) = {H with bR:=H.bR.set t {g with ls:=g.ls.set k (dM c x l).2,bQ:=(k,[x])::i}}:=by
   rw[←j];split
   ·rw[ZV hg,←L];rfl
   ·rw[ZV hg];unfold Km;rw[ZV (g:=g.iq k (dM c x l).2) (by simp[B])];simp only[nE,Th.iq,L];rfl
  have e3:({H with bR:=H.bR.set t {g with ls:=g.ls.set k (dM c x l).2,bQ:=(k,[x])::i}}:Hw).dZ t (λh=>{h with bQ:=h.bQ.drop 1}) = {H with bR:=H.bR.set t g3}:=by
   rw[ZV (g:={g with ls:=g.ls.set k (dM c x l).2,bQ:=(k,[x])::i}) (by simp[B])];simp only[nE,wq,yT];rfl
  have u:({H with bR:=H.bR.set t g3}:Hw).bR[t]?=some g3:=by simp[B]
  unfold iC;simp only[UG hc,G,R,e2,e3,G3 u,ZV u,nE];show(if H.cf.dD<KC H.tb g3.ls then _ else _)=_
  simp only[g4];split<;>rfl
 have hg4:g4.ph=g.ph:=by simp only[g4];split<;>rfl
 have X:∀d y,l6 g4.ls d y+ma g4.bQ d y=l6 g.ls d y+ma g.bQ d y:=λd y=>by
  have Y:=A8 hl (dM c x l).2 d y;have h2:=Z y;have h3:l6 g3.ls d y+ma g3.bQ d y=l6 g.ls d y+ma g.bQ d y:=by
   simp only[g3];rw[D,L,Vr,V5];by_cases hkk:(k:Int)=d
   ·simp only[hkk,zT]at Y ⊢;omega
   ·simp only[hkk,jT]at Y ⊢;omega
  simp only[g4];split
  ·have h4:=Jh (f:=Vv) Tu (tb:=H.tb) (ls:=g3.ls) N d y;simp only[Fs];omega
  ·exact h3
 have p:g4.ls.length=H.tb.length/\(∀l∈g4.ls,fO l/\l.os.length<=128)/\(∀b∈g4.bQ,b.1<H.tb.length/\b.2≠[]/\b.2.length<=256)/\g4.bQ.length<=41:=by
  have hsl:=Bw Vv H.tb g3.ls;simp only[g4];split
  ·refine⟨Fy N,λl hl=>?_,λb m=>?_,by simp only[zJ,g3]at *;omega⟩
   ·obtain⟨K,M,E,A,rfl⟩:=Iz hl;have h5:=Q E A;have:=Lx K E;exact⟨Er (h.ok K M) h5.1,O⟩
   ·rcases zK.1 m with m|m
    ·exact z b m
    ·obtain⟨b1,b2,K,_,E,A,b3⟩:=Jd m;have h5:=Q E A;have:=Lx K E;exact⟨b1,b2,by rw[b3];omega⟩
  ·exact⟨N,Q,z,by simp only[g3];omega⟩
 have hs:WG H t (.put k x)=({H with bR:=H.bR.set t g4},(if g4.bQ=[]then none else some .back),0,0):=by
  show(iC H t k x,j8 (iC H t k x) t,0,0)=_;rw[aa,Dh (g:=g4) (by simp[B])]
 have e:=QC B hs;have hi:=h.kH hg (g':={g4 with ph:=if g4.bQ=[]then none else some .back}) (live':=H.live) (λd y=>by
  have Y:=X d y;unfold gS;rw[hph];have:jO (if g4.bQ=[]then none else some Ph.back) d y=0:=by split<;>rfl
  simp only[this];simp only[jO];omega) h.lk (λe' he=>.inl he) (λs a V=>by
   simp only at V;split at V<;>cases V) ⟨p.1,p.2.1,p.2.2.1,p.2.2.2,by
   unfold iz;by_cases ho:g4.bQ=[]
   ·simp only[ho,zT]
   ·simp only[ho,jT];exact ho⟩
 refine⟨iG.mk' hg r.hl ⟨J,by rw[G,L];simp⟩ e hi (KS.refl _),?_⟩;unfold nI;rw[e,hs];refine⟨rfl,?_,λ_=>⟨rfl,rfl⟩,λx hx=>by cases hx⟩;by_cases ho:g4.bQ=[]
 ·exact .inr (by simp only;rw[zC ho])
 ·exact .inl ⟨.back,_,by simp only;rw[zB ho],trivial,(λy hy=>by cases hy),zO B,by simp only[qE];have:=p.2.2.2;omega⟩
end Go.Ar
namespace Go.Ar
open Go Go.Vc Go.Proofs
open Go.Bu (fo VN HD)
variable {U u w w':Hp}{F B P Q:Rg}{L:dE}{H H':Hw}{t n:Nat}{g:Th}
def yN (size:Int):Int:=(size+255)/256*256
def oU (tb:List cA)(size align:Int):Int×Int:=
 if size<=16384/\Hl size align=true then(match gV tb size align with
  | some k=>((tb.getD k ⟨8,1,1⟩).size:Int)
  | none=>yN size,0)else(0,1)
theorem Ms {a:Int}(h1:1<=a)(h2:a<=256):(bits .and .i64 a (a-1) != 0) = !fo a:=by
 obtain⟨a,rfl⟩:=zc (show 0<=a by omega);rw[show(a:Int)-1=((a-1:Nat):Int) by omega,Go.Bu.iY O O,VN,←HD O O];simp only[bne,Bool.not_inj_iff];rw[kW];simp only[zU];omega
def QZ (sp:Sp)(x:Int):Int:=if eI sp x=0 then sp.wd (x.toNat/8)else 0
theorem C6 (h:HH U F L H)(x:Int)(hx:x<=9223372036854775807){R:Int->Int->Hp->Prop}(hR:∀σ',aF U σ'->R (QZ H.sp x) (eI H.sp x) σ'):YJ.c (aW L.p) x U R:=M4 h x hx hR
end Go.Ar
namespace Go.Ar
open Go Go.Vc Go.Proofs
variable {U u w w':Hp}{F B P Q:Rg}{L:dE}{H H':Hw}{t n:Nat}{g:Th}
def Kx (H:Hw)(x:Int):Option Int:=(bU H.live x).map λb=>b.2.1
theorem IQ {tb:List cA}{size align:Int}{k:Nat}(h:gV tb size align=some k):k<tb.length:=(List.findIdx?_eq_some_iff_findIdx_eq.1 h).1
theorem FZ (h:HH U F L H)(x:Int){R:Int->Int->Hp->Prop}(hR:∀σ',aF U σ'->R ((Kx H x).getD 0) (if(Kx H x).isSome then 0 else 8) σ'):XV.c (aW L.p) x U R:=by
 refine Ω h x λσ' e=>?_;have:=hR σ' e;unfold Kx at this;cases hm:bU H.live x with
 | none=>rw[hm]at this;exact this
 | some b=>rw[hm]at this;exact this
end Go.Ar
namespace Go.Ar
open Go.Vc (bU dA cO)
variable {H H':Hw}{held:List Pc}{s0:Sp}{t k j:Nat}{g:Th}{A:AR}{c:cA}
theorem Vs (f:Th->Th)(hj:j≠t):(H.dZ t f).bR[j]?=H.bR[j]? := by
 simp[Hw.dZ,uo,Ne.symm hj]
theorem T6 (x:Int)(hj:j≠t):(iC H t k x).bR[j]?=H.bR[j]? := by
 unfold iC Km;simp only;split<;>split<;>simp only[Vs _ hj]
theorem T0 (p:Ph)(hj:j≠t):(WG H t p).1.bR[j]?=H.bR[j]? := by
 cases p with
 | take k=>simp only[WG];split<;>simp only[V7,Vs _ hj]
 | cJ k w=>
  simp only[WG];split
  ·split
   ·unfold Km;rw[Vs _ hj];rfl
   ·rfl
  ·rfl
 | cL k w=>
  simp only[WG];split
  ·rfl
  ·unfold Km;rw[Vs _ hj];rfl
 | grow k w=>simp only[WG];split<;>rfl
 | fill=>simp only[WG];split<;>simp only[V7,Vs _ hj]
 | eO m=>simp only[WG];split<;>rfl
 | find x=>
  simp only[WG,Hu];split
  ·rfl
  ·split
   ·rfl
   ·unfold Km;rw[Vs _ hj]
 | put k x=>exact T6 x hj
 | back=>
  simp only[WG];split
  ·rw[B0,Vs _ hj]
  ·rfl
 | dH s a=>simp only[WG];split<;>rfl
 | drain=>simp only[WG,Vs _ hj]
theorem UQ (p:Ph)(hj:j≠t):(Kd H t p).bR[j]?=H.bR[j]? := by
 unfold Kd eX;rw[Vs _ hj,T0 p hj]
def fG (H:Hw)(j:Nat):Option Ph:=(H.bR[j]?).bind (·.ph)
def xR (H H':Hw)(t:Nat):Prop:=fG H' t=none/\∀j,j≠t->fG H' j=fG H j
theorem DL (h:HI H held s0)(hg:H.bR[t]?=some g){p:Ph}(hp:g.ph=some p)(hf:¬lR p):∃cl sz,Rq H.tb g p cl sz:=by
 have b:=(h.th g (h.mem hg)).ph;unfold iz at b;rw[hp]at b;cases p with
 | take k=>obtain⟨c,d,_⟩:=h.cls b.2;exact⟨_,_,rfl,c,d,rfl⟩
 | cJ k w=>obtain⟨c,d,_⟩:=h.cls b.2.1;exact⟨_,_,rfl,c,d,rfl⟩
 | cL k w=>obtain⟨c,d,_⟩:=h.cls b.2.1;exact⟨_,_,rfl,c,d,rfl⟩
 | grow k w=>obtain⟨c,d,_⟩:=h.cls b.2.1;exact⟨_,_,rfl,c,d,rfl⟩
 | fill=>
  obtain⟨k,x,r,j,i,_⟩:=b;obtain⟨c,d,_⟩:=h.cls i;exact⟨_,_,k,_,[],c,j,rfl,d,rfl⟩
 | eO m=>exact⟨_,_,rfl,rfl⟩
 | find x=>exact(hf trivial).elim
 | put k x=>exact(hf trivial).elim
 | back=>exact(hf trivial).elim
 | dH s a=>exact(hf trivial).elim
 | drain=>exact(hf trivial).elim
theorem r6 (h:HI H held s0)(hg:H.bR[t]?=some g){p:Ph}(hp:g.ph=some p){cl sz:Int}(hr:Rq H.tb g p cl sz):iG H t p/\uD H t p cl sz:=by
 cases p with
 | take k=>exact Rn h hg hp hr
 | cJ k w=>exact SM h hg hp hr
 | cL k w=>exact Υ h hg hp hr
 | grow k w=>exact Sm h hg hp hr
 | fill=>exact O0 h hg hp hr
 | eO m=>exact PA h hg hp hr
 | find x=>exact hr.elim
 | put k x=>exact hr.elim
 | back=>exact hr.elim
 | dH s a=>exact hr.elim
 | drain=>exact hr.elim
theorem ri (h:HI H held s0)(hg:H.bR[t]?=some g){p:Ph}(hp:g.ph=some p)(hf:lR p):iG H t p/\nI H t g p:=by
 cases p with
 | take k=>exact hf.elim
 | cJ k w=>exact hf.elim
 | cL k w=>exact hf.elim
 | grow k w=>exact hf.elim
 | fill=>exact hf.elim
 | eO m=>exact hf.elim
 | find x=>exact O5 h hg hp
 | put k x=>exact T2 h hg hp
 | back=>exact Rw h hg hp
 | dH s a=>exact M5 h hg hp
 | drain=>exact Nl h hg hp
open Classical in
theorem HI.stp (h:HI H held s0)(hg:H.bR[t]?=some g){p:Ph}(hp:g.ph=some p):iG H t p:=by
 by_cases hf:lR p
 ·exact(ri h hg hp hf).1
 ·obtain⟨cl,b,a⟩:=DL h hg hp hf;exact(r6 h hg hp a).1
theorem HF {p:Ph}(ht:t<H.bR.length):∃g',(Kd H t p).bR[t]?=some g'/\g'.ph=(WG H t p).2.1:=JE ht
theorem Fm {cl sz:Int}:∀(n:Nat) {H:Hw} {held:List Pc} {s0:Sp} {g:Th} {p:Ph},HI H held s0->H.bR[t]?=some g->g.ph=some p->Rq H.tb g p cl sz->pq H t p<=n →
 ∃m H' a e,iK m H t p H' a e/\(∃held s0,HI H' held s0)/\KS H.sp H'.sp/\xR H H' t/\((e≠0/\a=0/\H'.live=H.live)\/(e=0/\bU H.live a=none/\H'.live=dA H.live a (a,sz,cl,Yf H'.bY a)))
 | n,H,held,s0,g,p,h,hg,hp,hr,hn=>by
  have ht:=(cX.1 hg).1;obtain⟨s,F⟩:=r6 h hg hp hr;have d:(WG H t p).2.1=none->xR H (Kd H t p) t:=λG=>by
   obtain⟨B,w,x⟩:=HF (p:=p) ht;exact⟨by unfold fG;rw[w];exact x.trans G,λj u=>by unfold fG;rw[UQ p u]⟩
  rcases F with⟨p',B,e1,e2,e3,e4,e5⟩|⟨e1,e2,e3,e4⟩|⟨e1,e2,e3,e4⟩
  ·obtain⟨y,D,E⟩:=s.hi;obtain⟨J,b,kB⟩:=HF (p:=p) ht;rw[e3]at b;cases b;have z:(Kd H t p).tb=H.tb:=(U6 H t p).1;have C:pq (Kd H t p) t p'<n:=by omega
   obtain⟨m,H',a,e,r,hi,ks,A,i⟩:=Fm (pq (Kd H t p) t p') E e3 (kB.trans e1) (by rw[z];exact e4) (zE _);refine⟨m+1,H',a,e,.next s.ok e1 r,hi,s.ks.trans ks,⟨A.1,λj u=>(A.2 j u).trans (by unfold fG;rw[UQ p u])⟩,?_⟩;rw[e2]at i;exact i
  ·exact⟨1,_,_,_,.done s.ok e1,s.hi,s.ks,d e1,.inl ⟨e2,e3,e4⟩⟩
  ·exact⟨1,_,_,_,.done s.ok e1,s.hi,s.ks,d e1,.inr ⟨e2,e3,e4⟩⟩
termination_by n=>n
theorem Is:∀(n:Nat) {H:Hw} {held:List Pc} {s0:Sp} {g:Th} {p:Ph},HI H held s0->H.bR[t]?=some g->g.ph=some p->lR p->qE g p<=n →
 ∃m H' e,iK m H t p H' 0 e/\(∃held s0,HI H' held s0)/\KS H.sp H'.sp/\xR H H' t/\((∀x,p≠.find x)->e=0/\H'.live=H.live) ∧
  (∀x,p=.find x->(bU H.live x=none->e≠0/\H'.live=H.live)/\(∀b,bU H.live x=some b->e=0/\H'.live=cO H.live x))
 | n,H,held,s0,g,p,h,hg,hp,hf,hn=>by
  have ht:=(cX.1 hg).1;obtain⟨s,Q,N,J,a⟩:=ri h hg hp hf;rcases N with⟨p',w,e1,e2,e3,e4,e5⟩|e1
  ·obtain⟨C,L,M⟩:=s.hi;obtain⟨R,i,kB⟩:=HF (p:=p) ht;rw[e4]at i;cases i;have K:qE w p'<n:=by omega
   obtain⟨m,H',e,r,hi,ks,G,B,_⟩:=Is (qE w p') M e4 (kB.trans e1) e2 (zE _);obtain⟨F,E⟩:=B e3;refine⟨m+1,H',e,.next s.ok e1 r,hi,s.ks.trans ks,⟨G.1,λj u=>(G.2 j u).trans (by unfold fG;rw[UQ p u])⟩,λd=>⟨F,E.trans (J d).2⟩,λx d=>⟨λD=>?_,λb P=>⟨F,E.trans ((a x d).2 b P).2⟩⟩⟩;have:=((a x d).1 D).1;rw[e1]at this;cases this
  ·have y:xR H (Kd H t p) t:=by
    obtain⟨w,z,A⟩:=HF (p:=p) ht;exact⟨by unfold fG;rw[z];exact A.trans e1,λj u=>by unfold fG;rw[UQ p u]⟩
   have r:=iK.done (H:=H) (t:=t) s.ok e1;rw[Q]at r;exact⟨1,_,_,r,s.hi,s.ks,y,J,λx d=>⟨λD=>((a x d).1 D).2,(a x d).2⟩⟩
termination_by n=>n
structure fR (H H':Hw):Prop where
 hi:∃held s0,HI H' held s0
 ks:KS H.sp H'.sp
 kp:Q0 H' H
 ph:∀j,fG H' j=fG H j
theorem fR.refl (h:HI H held s0):fR H H:=⟨⟨held,s0,h⟩,KS.refl _,Q0.refl _,λ_=>rfl⟩
theorem fR.trans {H1 H2 H3:Hw}(a:fR H1 H2)(b:fR H2 H3):fR H1 H3:=⟨b.hi,a.ks.trans b.ks,a.kp.trans b.kp,λj=>(b.ph j).trans (a.ph j)⟩
theorem Lo {tb:List cA}{kind size align addr:Int}{p:Ph}(h:iV tb kind size align addr=some p)(hx:iP addr)(hh:g.bQ=[]):iz tb.length {g with ph:=some p}:=by
 unfold iV at h;split at h
 ·split at h
  ·split at h
   ·split at h
    ·rename_i k hk;cases h;exact⟨hh,IQ hk⟩
    ·cases h;exact⟨hh,O,O⟩
   ·cases h
  ·cases h
 ·split at h
  ·cases h;exact⟨hh,hx⟩
  ·split at h
   ·cases h;exact hh
   ·cases h
theorem HI.eX (h:HI H held s0)(hg:H.bR[t]?=some g)(hn:g.ph=none){p:Ph}(hp:iz H.tb.length {g with ph:=some p})(hq:∀s a,p≠.dH s a):HI (eX H t (some p)) held s0:=by
 have b:=h.th g (h.mem hg);have e:Go.Ar.eX H t (some p) = {H with bR:=H.bR.set t {g with ph:=some p}}:=ZV hg _;rw[e];refine h.kH hg (live':=H.live) (λi x=>?_) h.lk (λj d=>.inl d) (λs a hp=>by cases hp;exact(hq s a rfl).elim) ⟨b.ll,b.lo,b.hb,b.hl,hp⟩;unfold gS;rw[hn];have:jO (some p) i x=0:=by
  cases p<;>first|rfl|exact(hq _ _ rfl).elim
 simp only[this];simp only[jO]
theorem JD (h:HI H held s0)(hg:H.bR[t]?=some g)(hn:g.ph=none):g.bQ=[]:=by
 have:=(h.th g (h.mem hg)).ph;unfold iz at this;rw[hn]at this;exact this
theorem G0 (H:Hw)(thread kind size align addr:Int):(∃e,Vd H thread kind size align addr=.inl e/\e≠0)\/∃(t:Nat) (p:Ph) (g:Th),thread=(t:Int)/\H.bR[t]?=some g/\g.ph=none/\iV H.tb kind size align addr=some p/\Vd H thread kind size align addr=.inr (t,p):=by
 unfold Vd;split
 ·split
  ·split
   ·split
    ·rename_i hth _ g hg hn _ p hp;exact .inr ⟨thread.toNat,p,g,O,hg,hn,hp,rfl⟩
    ·exact .inl ⟨1,rfl,by decide⟩
   ·exact .inl ⟨5,rfl,by decide⟩
  ·exact .inl ⟨1,rfl,by decide⟩
 ·exact .inl ⟨1,rfl,by decide⟩
theorem Oi (hg:H.bR[t]?=some g)(p:Option Ph)(hj:j≠t):fG (eX H t p) j=fG H j:=by
 unfold fG eX;rw[Vs _ hj]
theorem Ih (hg:H.bR[t]?=some g)(hn:g.ph=none){p:Ph}(ps:xR (eX H t (some p)) H' t):∀j,fG H' j=fG H j:=λj=>by
 by_cases hj:j=t
 ·subst hj;rw[ps.1];unfold fG;rw[hg];exact hn.symm
 ·rw[ps.2 j hj,Oi hg _ hj]
def rF (H:Hw)(size align:Int)(H':Hw)(a e:Int):Prop:=(e≠0/\a=0/\H'.live=H.live) ∨
 (e=0/\bU H.live a=none/\(1<=size/\size<=16384/\Hl size align=true)/\∃cl,H'.live=dA H.live a (a,(oU H.tb size align).1,cl,Yf H'.bY a)/\((∃k:Nat,cl=k/\gV H.tb size align=some k)\/cl = -1/\gV H.tb size align=none))
theorem OS (h:HI H held s0)(thread size align:Int):∃H' a e,KK H thread 0 size align 0 H' a e/\fR H H'/\rF H size align H' a e:=by
 rcases G0 H thread 0 size align 0 with⟨e,hs,hne⟩|⟨t,p,g,rfl,hg,hn,hq,hs⟩
 ·exact⟨H,0,e,.inl ⟨hs,hne,rfl,rfl⟩,fR.refl h,.inl ⟨hne,rfl,rfl⟩⟩
 ·have D:=JD h hg hn;have j:=Lo (g:=g) hq (by unfold iP;decide) D;unfold iV at hq;rw[zC rfl]at hq;split at hq
  ·rename_i hsz;split at hq
   ·rename_i hok;have b:oU H.tb size align=(match gV H.tb size align with
     | some k=>((H.tb.getD k ⟨8,1,1⟩).size:Int)
     | none=>yN size,0):=by
     unfold oU;rw[zC ⟨hsz.2,hok⟩]
     first|done | (cases gV H.tb size align<;>rfl)
    obtain⟨cl,d,y⟩:∃cl,Rq H.tb {g with ph:=some p} p cl (oU H.tb size align).1/\((∃k:Nat,cl=k/\gV H.tb size align=some k)\/cl = -1/\gV H.tb size align=none):=by
     cases hcv:gV H.tb size align with
     | some k=>
      rw[hcv]at hq b;cases hq;have x:=IQ hcv;have z:H.tb[k]?=some H.tb[k]:=cW x;refine⟨k,⟨rfl,H.tb[k],z,?_⟩,.inl ⟨k,rfl,rfl⟩⟩;rw[b];simp only;rw[zQ,z];rfl
     | none=>
      rw[hcv]at hq b;cases hq;refine⟨-1,⟨rfl,?_⟩,.inr ⟨rfl,rfl⟩⟩;rw[b];simp only;unfold yN;omega
    have i:∀s a,p≠.dH s a:=λs a e=>by subst e;exact d.elim
    have C:=h.eX hg hn j i;have u:(Go.Ar.eX H t (some p)).bR[t]?=some {g with ph:=some p}:=by
     have A:=(cX.1 hg).1;have e:Go.Ar.eX H t (some p) = {H with bR:=H.bR.set t {g with ph:=some p}}:=ZV hg _;rw[e];simp[A]
    obtain⟨m,H',a,e,r,hi,ks,B,w⟩:=Fm _ C u rfl d (zE _);refine⟨H',a,e,.inr ⟨t,p,m,hs,r⟩,⟨hi,ks,(Vx _ _ _).trans (EE r),Ih hg hn B⟩,?_⟩;rcases w with⟨r1,r2,r3⟩|⟨r1,r2,r3⟩
    ·exact .inl ⟨r1,r2,r3⟩
    ·exact .inr ⟨r1,r2,⟨hsz.1,hsz.2,hok⟩,cl,r3,y⟩
   ·cases hq
  ·cases hq
def nM (H:Hw)(thread addr:Int)(H':Hw)(e:Int):Prop:=
 (e≠0/\H'=H/\Vd H thread 1 0 0 addr=.inl e)\/((∃p,Vd H thread 1 0 0 addr=.inr p)/\bU H.live addr=none/\e≠0/\H'.live=H.live)\/((∃p,Vd H thread 1 0 0 addr=.inr p)/\∃b,bU H.live addr=some b/\e=0/\H'.live=cO H.live addr)
theorem Wnu (h:HI H held s0)(hg:H.bR[t]?=some g)(hn:g.ph=none){p:Ph}(hp:iz H.tb.length {g with ph:=some p})(hf:lR p)(hq:∀s a,p≠.dH s a):∃m H' e,iK m (eX H t (some p)) t p H' 0 e/\fR H H'/\((∀x,p≠.find x)->e=0/\H'.live=H.live) ∧
 (∀x,p=.find x->(bU H.live x=none->e≠0/\H'.live=H.live)/\(∀b,bU H.live x=some b->e=0/\H'.live=cO H.live x)):=by
 have u:=h.eX hg hn hp hq;have d:(Go.Ar.eX H t (some p)).bR[t]?=some {g with ph:=some p}:=by
  have y:=(cX.1 hg).1;have e:Go.Ar.eX H t (some p) = {H with bR:=H.bR.set t {g with ph:=some p}}:=ZV hg _;rw[e];simp[y]
 obtain⟨m,H',e,r,hi,ks,i,w,j⟩:=Is _ u d rfl hf (zE _);exact⟨m,H',e,r,⟨hi,ks,(Vx _ _ _).trans (EE r),Ih hg hn i⟩,w,j⟩
theorem N6 (h:HI H held s0)(thread addr:Int)(hx:iP addr):∃H' e,KK H thread 1 0 0 addr H' 0 e/\fR H H'/\nM H thread addr H' e:=by
 rcases G0 H thread 1 0 0 addr with⟨e,hs,hne⟩|⟨t,p,g,rfl,hg,hn,hq,hs⟩
 ·exact⟨H,e,.inl ⟨hs,hne,rfl,rfl⟩,fR.refl h,.inl ⟨hne,rfl,hs⟩⟩
 ·have d:=Lo (g:=g) hq hx (JD h hg hn);have j:p=.find addr:=by unfold iV at hq;simp at hq;exact hq.symm
  subst j;obtain⟨m,H',e,r,op,_,i⟩:=Wnu h hg hn d trivial (λs a e=>by cases e);refine⟨H',e,.inr ⟨t,_,m,hs,r⟩,op,?_⟩;cases hm:bU H.live addr with
  | none=>exact .inr (.inl ⟨⟨_,hs⟩,hm,(i addr rfl).1 hm⟩)
  | some b=>exact .inr (.inr ⟨⟨_,hs⟩,b,hm,(i addr rfl).2 b hm⟩)
end Go.Ar
namespace Go.Ar
open Go Go.Vc Go.Proofs
variable {U u w w':Hp}{F B P Q:Rg}{L:dE}{H H':Hw}{t n k:Nat}{A:AR}{Y:Lay}
theorem Fr.refl (A:AR):Fr A A:=⟨rfl,rfl,rfl⟩
theorem Fr.trans {A B C:AR}(h:Fr B A)(k:Fr C B):Fr C A:=⟨k.1.trans h.1,k.2.1.trans h.2.1,k.2.2.trans h.2.2⟩
end Go.Ar
namespace Go.Ar
variable {A:AR}
def rh (tb:List cA)(n room m:Nat):Wd:=⟨tb,V6 n,List.replicate m (fC n room tb),[]⟩
theorem WmC {n room:Nat}{tb:List cA}(h1:32<=n)(h2:n<=1024)(h3:n%16=0)(h6:tb.length<=40)(h7:∀c∈tb,c.ok):GA (fC n room tb)/\∀p,(fC n room tb).f p=0:=by
 have g:∀p,(fC n room tb).f p=0:=λp=>by
  show(List.replicate n 0).getD p 0=0;rw[zQ,mS];split<;>rfl
 have a:∀{k:Nat} {i:List cH},(List.replicate tb.length ([]:List cH))[k]?=some i->i=[]:=λh=>by
  rw[mS]at h;split at h<;>simp at h;exact h
 have b:∀{k:Nat} {t:gP},(List.replicate tb.length (⟨0,[]⟩:gP))[k]?=some t->t.bs=[]:=λh=>by
  rw[mS]at h;split at h<;>simp at h;rw[←h]
 refine⟨⟨⟨by simp[fC],h1,h2,h3,λp=>by rw[g];omega,λp=>by rw[g];simp[fC],λp=>by rw[g];simp[fC,Go.Bu.iB],λp=>by rw[g,g]⟩,h6,by simp[fC],by simp[fC],λk c i d=>?_,λk c i d s m=>?_,λk c i d p=>?_,λp=>?_,λp=>.inr (Nat.zero_le _),by simp[fC],by simp[fC],λk t j=>?_,λk c i t d j=>?_,λk c t d j=>?_⟩,g⟩
 ·have e:=a d.2;subst e;exact⟨h7 c (zG d.1),by simp,by simp⟩
 ·have e:=a d.2;subst e;simp at m
 ·have e:=a d.2;subst e;constructor
  ·intro h;cases h
  ·rintro⟨s,m,_⟩;simp at m
 ·constructor
  ·intro h;cases h
  ·rintro⟨r,hr,_⟩;simp[fC]at hr
 ·have:=b j;rw[this];exact ua
 ·have:=b j;rw[this];simp
 ·have:=b j;rw[this];simp
theorem N2 {tb:List cA}{n room m:Nat}(h1:32<=n)(h2:n<=1024)(h3:n%16=0)(h6:tb.length<=40)(h7:∀c∈tb,c.ok):WI (rh tb n room m):=by
 obtain⟨u,d⟩:=WmC (room:=room) h1 h2 h3 h6 h7;have get:∀{k:Nat} {A:AR},(rh tb n room m).bY[k]?=some A->A=fC n room tb:=λ{k A} h=>by
  have h:(List.replicate m (fC n room tb))[k]?=some A:=h;rw[mS]at h;split at h<;>simp at h;exact h.symm
 have b:∀p,gf (V6 n).st p=0:=λp=>by
  show(List.replicate n 0).getD p 0=0;rw[zQ,mS];split<;>rfl
 refine⟨λk A h=>by rw[get h];exact u,λk A h=>?_,λk A h=>by rw[get h];rfl,λk A h p a=>by rw[get h];exact d p,λp a=>(a (b p)).elim,λp k l A B E G h1 h2=>?_,ua,λp a=>by simp[rh]at a,λk A h j y w=>?_,λk A h r z=>?_⟩
 ·rw[get h];exact⟨by simp[rh,V6,fC],λp a=>(a (d p)).elim,λp a=>by rw[d p]at a;omega,λp=>by show gf (V6 n).st p<=2;rw[b];omega⟩
 ·rw[get E]at h1;exact(h1 (d p)).elim
 ·rw[get h]at w;obtain⟨c,C,x,D⟩:=w;have g:C=[]:=by
   have h2:=x.2;simp only[fC]at h2;rw[mS]at h2;split at h2<;>simp at h2;exact h2
  subst g;obtain⟨H,s,i,F,_⟩:=(Ug (u.cG _ _ _ x)).1 D;simp at F
 ·rw[get h]at z;simp[fC]at z
end Go.Ar
namespace Go.Ar
open Go.Vc (bU dA cO)
variable {H H':Hw}{held:List Pc}{s0:Sp}{t k j:Nat}{g:Th}{A:AR}{c:cA}
theorem SV {tb:List cA}{cf:Cf}(h1:32<=cf.aG)(h2:cf.aG<=1024)(h3:cf.aG%16=0)(h4:1<=cf.ie)(h6:tb.length<=40)(h7:∀c∈tb,c.ok):HI (Uo tb cf) [] (V6 cf.aG):=by
 have w:=N2 (tb:=tb) (n:=cf.aG) (room:=cf.room) (m:=cf.ie) h1 h2 h3 h6 h7;have i:∀g∈(Uo tb cf).bR,g=⟨List.replicate tb.length iy,[],none⟩:=λg d=>(A4.1 d).2;have r:∀k,(List.replicate tb.length iy).getD k iy=iy:=λk=>by
  rw[zQ,mS];split<;>rfl
 refine⟨w,jI.refl _,λk x=>?_,ua,λe A=>by simp[Uo]at A,λg d s a j=>?_,λg d=>?_,h7,?_,?_⟩
 ·have B:∀(n:Nat) (f:Th->Nat) (g:Th),f g=0->((List.replicate n g).map f).sum=0:=λn f g h=>by
   rw[vV,h]
   induction n with
   | zero=>rfl
   | succ n ih=>rw[tD,oE,ih]
  have u:gS ⟨List.replicate tb.length iy,[],none⟩ k x=0:=by
   unfold gS l6;split
   ·simp only[r];rfl
   ·rfl
  have:sj (Uo tb cf) k x=0:=by
   unfold sj;show my [] k x+((List.replicate cf.threads (⟨List.replicate tb.length iy,[],none⟩:Th)).map λg=>gS g k x).sum=0;rw[B _ _ _ u];rfl
  rw[this,KT];rintro⟨p,j,_⟩;simp at j
 ·rw[i g d]at j;cases j
 ·rw[i g d];refine⟨by simp[Uo],λl z=>?_,λb y=>by simp at y,by simp,by unfold iz;rfl⟩;rw[(A4.1 z).2];exact⟨fO.nil,by simp[iy]⟩
 ·show 1<=(List.replicate cf.ie (fC cf.aG cf.room tb)).length;simpa using h4
 ·show(List.replicate cf.aG 0).length=cf.aG;simp
def KL (H H':Hw):Prop:=∀e∈H.live,∀w:Nat,e.1<=((8*w:Nat):Int)->((8*w:Nat):Int)<e.1+e.2.2.1->H'.sp.wd w=H.sp.wd w
theorem HI.A3 (h:HI H held s0):WI ⟨H.tb,s0,H.bY,held⟩:=h.wi
theorem HI.mapped (h:HI H held s0){p:Pc}(hp:p∈held){x:Nat}(h1:p.addr<=x)(h2:x<p.addr+p.size):gf H.sp.st (x/256)≠0:=by
 obtain⟨A,a,_⟩:=h.wi.hf p hp;have e1:=h.wi.p8 hp a h1 h2;have:=(h.wi.ow _ A a).own (x/256) O;intro hz;exact this ((h.nc.z _).1 hz)
theorem HI.kl (h:HI H held s0)(k:KS H.sp H'.sp):KL H H':=λe a w m j=>by
 obtain⟨_,p,b,_,_,g,i,_⟩:=h.lv e a;have d:=h.mapped b (x:=8*w) O O;exact(k.k _ d).2 w O
theorem KL.refl (H:Hw):KL H H:=λ_ _ _ _ _=>rfl
theorem KL.trans {H1 H2 H3:Hw}(a:KL H1 H2)(b:KL H2 H3)(hl:∀e∈H1.live,e∈H2.live):KL H1 H3:=λe g w i d=>(b e (hl e g) w i d).trans (a e g w i d)
structure mT (H H':Hw):Prop where
 hi:∃held s0,HI H' held s0
 live:H'.live=H.live
 bR:H'.bR=H.bR
 kp:Q0 H' H
 kl:KL H H'
theorem mT.refl (h:HI H held s0):mT H H:=⟨⟨_,_,h⟩,rfl,rfl,Q0.refl _,KL.refl _⟩
theorem mT.trans {H1 H2 H3:Hw}(a:mT H1 H2)(b:mT H2 H3):mT H1 H3:=⟨b.hi,b.live.trans a.live,b.bR.trans a.bR,a.kp.trans b.kp,a.kl.trans b.kl λe d=>by rw[a.live];exact d⟩
theorem HI.n (h:HI H held s0)(hk:H.bY[k]?=some A):A.n=H.cf.aG:=by
 have:=(h.wi.ow k A hk).l;have b:=h.nc.l;have a:=h.sl;simp only at this;omega
theorem WI.wd {W:Wd}(h:WI W)(f:Nat->Int):WI {W with sp:={W.sp with wd:=f}}:=
 ⟨h.ga,λk A hk=>⟨(h.ow k A hk).l,(h.ow k A hk).own,(h.ow k A hk).cl,(h.ow k A hk).le⟩,h.tb,h.low,h.own,h.one,h.hk,h.hf,h.ht,h.hr⟩
theorem FG {sp:Sp}{x:Int}(h:eI sp x=0):0<=x/\x%8=0/\gf sp.st (x.toNat/256)≠0:=by
 unfold eI at h;split at h
 ·cases h
 ·split at h
  ·cases h
  ·exact⟨O,O,by assumption⟩
theorem Bl (sp:Sp)(x v:Int):(ZF sp x v).st.length=sp.st.length/\(∀p,gf (ZF sp x v).st p=0↔gf sp.st p=0)/\∀w,(ZF sp x v).wd w=if eI sp x=0/\w=x.toNat/8 then v else sp.wd w:=by
 unfold ZF;split
 ·rename_i h0;have a:=FG h0;refine⟨by simp[nH],λp=>?_,λw=>?_⟩
  ·show gf (sp.st.set (x.toNat/8/32) 2) p=0↔_;have b:x.toNat/8/32=x.toNat/256:=by omega
   rw[b];unfold gf at a ⊢;rw[zQ]at a ⊢;rw[zQ,oa];split
   ·rename_i he;split
    ·rw[←he];simp only[qX];exact⟨λh=>O,λh=>(a.2.2 h).elim⟩
    ·rename_i hl;rw[zX O]at a;exact(a.2.2 rfl).elim
   ·exact Iff.rfl
  ·show(if w=x.toNat/8 then v else sp.wd w)=_
   by_cases hw:w=x.toNat/8
   ·rw[zC hw,zC ⟨h0,hw⟩]
   ·rw[zB hw,zB λh=>hw h.2]
 ·exact⟨rfl,λ_=>Iff.rfl,λw=>by rw[zB λh=>by have:=h.1;contradiction]⟩
theorem HI.write (h:HI H held s0)(x v:Int):HI {H with sp:=ZF H.sp x v} held {s0 with wd:=(ZF H.sp x v).wd}:=by
 obtain⟨a,b,_⟩:=Bl H.sp x v;exact⟨h.wi.wd _,⟨a.trans h.nc.l,λp=>(b p).trans (h.nc.z p),rfl⟩,h.cn,h.lk,h.lv,h.gv,h.th,h.ok,h.a1,a.trans h.sl⟩
end Go.Ar
namespace Go.Ar
open Go Go.Vc Go.Proofs
variable {U u w w':Hp}{F B P Q:Rg}{L:dE}{H H':Hw}{t n:Nat}{g:Th}
end Go.Ar
namespace Go.Proofs
open Go.Vc
set_option maxRecDepth 100000
def Xe.h:Hn:=.q .o2 (.q (.q (.cU (.seq [.op,.op,.op,.cY false 2 [.op,.op]])) .aJ) (.q .o1 (.q .o1 (.q (.k (.loop [(4,.one .s),(5,.I)] (.q (.q .o2 (.c .l .l)) (.k (.q .o7 .o6))))) (.q .o6 (.q .o1 (.q (.q .o1 (.k (.loop [(6,.one .s),(7,.I)] (.q (.q .o4 (.c .l .l)) (.q (.k (.q (.cU (.gI true [] [(70,.one .b)] (.tk [0,1,2,3,4,5] (.split 43 (.tk [6,7,8,9,10,11,12,13,14,15,16,17,18,19,20,21,22,23,24,25,26,27,28,29,30,31,32] (.done)) (.tk [6,7,8,9,10,11,12,13,14,15,16,17,18,19] (.split 57 (.tk [20,21,22,23,24,25,26,27,28,29,30,31,32] (.done)) (.tk [20,21,22,23,25,26,27,28,29] (.all [(24,.all [(30,.take 31 (.take 32 (.done)))])])))))))) (.c .o8 .l))) .o3))))) (.q .o3 .l))))))))
def Xe.v (a:Int)(b:Hp)(c:Sl->Int->Hp->Prop):Prop:=bX (λd e=>If d (c ⟨none,0,0⟩ 1 e) (X6 [.s,bO] (λf=>f ⟨none,0,0⟩ 8 e) λg (h:Sl) (i:Int) j=>If (i<512) (Xz.c i a j λk l m n=>aV #[.I k,.I l,.I m] 149 n λo p=>App h 3 24 149 [.I 0,.I 0,.I 0] ⟨some o,1,1⟩ p λq r=>X9.c i a r λs t=>bM (i+s) λu=>g q u t) (Xz.c 512 a j λv w x y=>aV #[.I v,.I w,.I x] 149 y λz aa=>App h 3 24 149 [.I 0,.I 0,.I 0] ⟨some z,1,1⟩ aa λab ac=>X6 [.s,bO] (λad=>ad ⟨none,0,0⟩ 0 ac) λae (af:Sl) (ag:Int) ah=>If (ag<((ab.len:Nat):Int)) (Jn [.b] (λ(ai:Bool) aj=>If ai (Ix ab.a ab.len ag 3 λak=>aQ ak 0 aj λal=>aQ ak 1 aj λam=>aQ ak 2 aj λan=>aV #[.I al,.I am,.I an] 149 aj λao ap=>App af 3 24 149 [.I 0,.I 0,.I 0] ⟨some ao,1,1⟩ ap λaq ar=>bM (ag+1) λau=>ae aq au ar) (bM (ag+1) λav=>ae af av aj)) λaw=>dY ah λax=>bM (((ab.len:Nat):Int)-1) λay=>If (ag==ay) (aw true ah) (Ix ab.a ab.len ag 3 λaz=>aS ax az 1 λa0=>bM (ag+1) λa1=>Ix ab.a ab.len a1 3 λa2=>aS ax a2 1 λa3=>If (a0 != a3) (aw true ah) (Ix ab.a ab.len ag 3 λa4=>aS ax a4 0 λa5=>aS ax a4 1 λa6=>aS ax a4 2 λa7=>bM (ag+1) λa8=>Ix ab.a ab.len a8 3 λa9=>aS ax a9 0 λba=>aS ax a9 1 λbb=>aS ax a9 2 λbc=>Xc.c a5 a6 a7 ah λbd be=>
 And (ax be) <| Xc.c ba bb bc be λbf bg=>And (ax bg) <| aw (bd != bf) bg))) (c af 0 ah)))) λbh=>If (a<2) (bh true b) (bh (decide (a>16)) b)
theorem Xe.o {a b c}(d:Xe.v a b c):Xe.c a b c:=Wa Tryz.func96 (x:=Xe.h) (R0 d)
def Xz.h:Hn:=.q .o1 (.q .o8 (.q (.q .o1 (.k (.loop [(6,.I)] (.q (.q .o2 (.c .l .l)) (.q (.k (.q (.cU (.seq [.op,.op,.op,.op,.op,.cY true 9 (RI.ops 9)])) (.c .o3 .l))) .o3))))) .aL))
def Xz.v (a b:Int)(c:Hp)(d:Int->Int->Int->Hp->Prop):Prop:=aV #[.I 0,.I 0,.I 0] 149 c λe f=>Nz a<|bM ((512:Int).tdiv a) λg=>aV #[.I 0,.I 0,.I 0] 149 f λh i=>aR h 0 (.I a) i λj=>aR h 1 (.I 4) j λk=>aR h 2 (.I (if 32<(if 2>g then 2 else g)then 32 else(if 2>g then 2 else g))) k λl=>X6 [bO] (λm=>m 4 l) λn (o:Int) p=>If (o≥1) (bM (o*256) λq=>bX (λr s=>If r (aR h 1 (.I o) s λt=>bM (o-1) λu=>n u t) (bM (o-1) λv=>n v s)) λw=>If (q≥a) (bM (o*256) λx=>Nz a <| bM (b*(x.tmod a)) λy=>bM (o*256) λz=>w (decide (y<=z)) p) (w false p)) (aQ h 0 p λaa=>aQ h 1 p λab=>aQ h 2 p λac=>aR e 0 (.I aa) p λad=>aR e 1 (.I ab) ad λae=>aR e 2 (.I ac) ae λaf=>aQ e 0 af λag=>aQ e 1 af λah=>aQ e 2 af λai=>d ag ah ai af)
theorem Xz.o {a b c d}(e:Xz.v a b c d):Xz.c a b c d:=Wa Tryz.func148 (x:=Xz.h) (R0 e)
def X9.h:Hn:=.q .o1 (.q .o1 (.q (.k (.loop [(5,.I)] (.q (.q .o6 (.c .l .l)) (.k .o3)))) .aL))
def X9.v (a b:Int)(c:Hp)(d:aN):Prop:=X6 [bO] (λe=>e 8 c) λf (g:Int) h=>bM (2*g) λi=>Nz b<|bM (a.tdiv b) λj=>If (i<=j) (bM (2*g) λk=>f k h) (d g h)
theorem X9.o {a b c d}(e:X9.v a b c d):X9.c a b c d:=Wa Tryz.func149 (x:=X9.h) (R0 e)
def Xc.h:Hn:=.q .o2 (.q .o1 (.q (.k (.loop [(3,.I)] (.q (.q .o9 (.c .l .l)) (.k .o3)))) .aL))
def Xc.v (a b c:Int)(d:Hp)(e:aN):Prop:=aV #[.I a,.I b,.I c] 149 d λf g=>X6 [bO] (λh=>h 0 g) λi (j:Int) k=>bM (j+1) λl=>aQ f 0 k λm=>bM (l*m) λn=>aQ f 1 k λo=>bM (o*256) λp=>If (n<=p) (bM (j+1) λq=>i q k) (e j k)
theorem Xc.o {a b c d e}(f:Xc.v a b c d e):Xc.c a b c d e:=Wa Tryz.func150 (x:=Xc.h) (R0 f)
end Go.Proofs
namespace Go.Ar
open Go Go.Vc Go.Proofs
variable {U w:Hp}
abbrev T3:=Int×Int×Int
def v3 (x:T3):List Value:=[.int .i64 x.1,.int .i64 x.2.1,.int .i64 x.2.2]
def lS (l:List T3):List Value:=l.flatMap v3
theorem DS (l:List T3):(lS l).length=l.length*3:=by
 induction l with
 | nil=>rfl
 | cons x l ih=>simp only[lS,oy,zJ,v3,zS,kr]at *;omega
theorem MI (l:List T3)(x:T3):lS (l++[x])=lS l++v3 x:=by simp[lS]
theorem Bd:∀{l:List T3} {i:Nat} {x:T3},l[i]?=some x->∀{d:Nat},d<3->(lS l)[i*3+d]?=(v3 x)[d]?
 | [],_,_,h,_,_=>by simp at h
 | y::l,0,x,h,d,hd=>by
  simp at h;subst h;have e:lS (y::l)=v3 y++lS l:=rfl;rw[e,zd (by simp[v3];omega)];congr 1;omega
 | y::l,i+1,x,h,d,hd=>by
  have e:lS (y::l)=v3 y++lS l:=rfl;have a:(v3 y).length=3:=rfl;rw[e,zp O,a,show(i+1)*3+d-3=i*3+d by omega];exact Bd (by simpa using h) hd
theorem Ir {Q:Rg}{s:Sl}{l:List T3}(h:Go.Vc.Own Q U s 3 (lS l)):iw U s l:=by
 have u:=h.1;rw[DS]at u;refine⟨O,λi x y z g=>?_⟩;obtain⟨b,d,m⟩:=h.cell (j:=i*3+0) (v:=.int .i64 x) ((Bd g O).trans rfl);obtain⟨w,a,r⟩:=h.cell (j:=i*3+1) (v:=.int .i64 y) ((Bd g O).trans rfl);rw[d]at a;cases a;obtain⟨w,a,p⟩:=h.cell (j:=i*3+2) (v:=.int .i64 z) ((Bd g O).trans rfl);rw[d]at a;cases a;refine⟨b,0,d,KV m,?_,?_,?_⟩
 ·rw[show 0+i*3=i*3+0 by omega];exact m
 ·rw[show 0+i*3+1=i*3+1 by omega];exact r
 ·rw[show 0+i*3+2=i*3+2 by omega];exact p
def uZ (s w:Int)(n:Nat):Int:=([4,3,2,1].take n).foldl (λ(r p:Int)=>if s<=p*256/\w*((p*256)%s)<=p*256 then p else r) 4
def As (s:Int):Int:=min 32 (max 2 (512/s))
def lC (s w:Int):T3:=(s,uZ s w 4,As s)
def xy:Nat->Int->Int->Int
 | 0,d,_=>d
 | n+1,d,q=>if 2*d<=q then xy n (2*d) q else d
def wE (s w:Int):Int:=xy 8 8 (s/w)
def mU (x:T3):Int:=x.2.1*256/x.1
theorem Ι (s w:Int)(n:Nat):1<=uZ s w n/\uZ s w n<=4:=by
 have key:∀(l:List Int) (r:Int),(∀p∈l,1<=p/\p<=4)->1<=r/\r<=4->1<=l.foldl (λ(r p:Int)=>if s<=p*256/\w*((p*256)%s)<=p*256 then p else r) r/\l.foldl (λ(r p:Int)=>if s<=p*256/\w*((p*256)%s)<=p*256 then p else r) r<=4:=by
  intro l
  induction l with
  | nil=>intro r _ h;exact h
  | cons p l ih=>
   intro r hl hr;rw[re];refine ih _ (λq a=>hl q (mu _ a)) ?_;split
   ·exact hl p mY
   ·exact hr
 refine key _ _ (λp b=>?_) O;have:=vO b;simp at this;omega
theorem LF (s w:Int)(h1:8<=s)(h2:s<=512)(hw1:2<=w)(hw2:w<=16){R:Int->Int->Int->Hp->Prop}(hR:∀σ',aF U σ'->R (lC s w).1 (lC s w).2.1 (lC s w).2.2 σ'):Xz.c s w U R:=by
 refine Xz.o ?_;unfold Xz.v;have Y:1<=512/s/\512/s<=64:=⟨by rw[Int.le_ediv_iff_mul_le O];omega,Int.ediv_le_of_le_mul O O⟩;refine nw (cs:=[.int .i64 0,.int .i64 0,.int .i64 0]) λv hz e W=>nz O (ar (by rw[YR O];omega) (by rw[YR O];omega) ?_);rw[YR O];refine nw (cs:=[.int .i64 0,.int .i64 0,.int .i64 0]) λv1 P e1 D=>D.s1 aA λv2 o2 A=>A.s1 aA λL o3 p=>p.s1 aA λv4 o4 b4=>?_;have b:U.size≠v.size:=by omega
 have y:=WE o4 (WE o3 (WE o2 (e1.bV W id) b) b) b;have Z:aF U v4:=((((e.trans e1).only o2 (.inr O)).only o3 (.inr O)).only o4 (.inr O));have g:(if 32<(if 2>512/s then 2 else 512/s)then 32 else(if 2>512/s then 2 else 512/s))=As s:=by unfold As;omega
 rw[g]at b4;refine Qv (a:=bO) (λ(z:Int) u=>∃n:Nat,n<=4/\z=4-(n:Int)/\aF U u/\bZ u U.size [.int .i64 0,.int .i64 0,.int .i64 0]/\bZ u v.size [.int .i64 s,.int .i64 (uZ s w n),.int .i64 (As s)]) (λz _=>z.toNat) ⟨0,O,rfl,Z,y,b4⟩ ?_;rintro(z:Int) u ⟨n,hn,rfl,eu,hu,bu⟩;refine cN (λQ=>?_) λM=>?_
 ·have aa:n<4:=by omega
  have d:uZ s w (n+1)=if s<=(4-(n:Int))*256/\w*(((4-(n:Int))*256)%s)<=(4-(n:Int))*256 then 4-(n:Int)else uZ s w n:=by
   have K:([4,3,2,1]:List Int)[n]?=some (4-(n:Int)):=by
    rcases(show n=0\/n=1\/n=2\/n=3 by omega)with rfl|rfl|rfl|rfl<;>rfl
   unfold uZ;rw[j6,K,vp];rfl
  refine ar O O ?_;refine KM (λr G=>G=u/\r=decide (s<=(4-(n:Int))*256/\w*(((4-(n:Int))*256)%s)<=(4-(n:Int))*256)) (λr G ⟨C,x⟩=>?_) λJ F=>?_
  ·subst C;by_cases hc:s<=(4-(n:Int))*256/\w*(((4-(n:Int))*256)%s)<=(4-(n:Int))*256
   ·rw[zI hc]at x;rw[zC hc]at d;refine cF x (bu.s1 aA λV o1 B=>ar O O ⟨⟨n+1,O,O,eu.only o1 (.inr O),WE o1 hu b,by rw[d];exact B⟩,O⟩)
   ·rw[zM hc]at x;rw[zB hc]at d;exact cD x (ar O O ⟨⟨n+1,O,O,eu,hu,by rw[d];exact bu⟩,O⟩)
  ·have m:=Int.emod_nonneg ((4-(n:Int))*256) (show s≠0 by omega);have N:=Int.emod_lt_of_pos ((4-(n:Int))*256) (show 0<s by omega);have S:w*(((4-(n:Int))*256)%s)<=16*512:=Int.mul_le_mul hw2 O m O;have X:0<=w*(((4-(n:Int))*256)%s):=Int.mul_nonneg O m;refine cN (λh1=>ar O O (nz O ?_)) λh1=>F _ _ ⟨rfl,(zM λj=>h1 j.1).symm⟩;rw[Kj O];refine ar O O (ar O O (F _ _ ⟨rfl,?_⟩));rw[decide_eq_decide];exact⟨λj=>⟨h1,j⟩,λj=>j.2⟩
 ·have E:n=4:=by omega
  subst E;refine bu.rI rfl (bu.rI rfl (bu.rI rfl (hu.s1 aA λV o1 B=>B.s1 aA λu2 o2 A=>A.s1 aA λH o3 p=>p.rI rfl (p.rI rfl (p.rI rfl (hR H ?_))))));exact((eu.only o1 (.inr O)).only o2 (.inr O)).only o3 (.inr O)
theorem ι (s w:Int)(h1:8<=s)(h2:s<=512)(hw1:2<=w){R:aN}(hR:8<=wE s w->wE s w<=256->R (wE s w) U):X9.c s w U R:=by
 refine X9.o ?_;unfold X9.v;have m:0<=s/w/\s/w<=256:=⟨Int.ediv_nonneg O O,by
  have:s/w<=s/2:=by
   apply Int.le_ediv_of_mul_le O;have:=Int.ediv_mul_le s (show w≠0 by omega);have j:s/w*2<=s/w*w:=Int.mul_le_mul_of_nonneg_left hw1 (Int.ediv_nonneg O O);omega
  omega⟩
 refine Qv (a:=bO) (λ(d:Int) u=>u=U/\∃n:Nat,xy n d (s/w)=wE s w/\8<=d/\d<=256/\512<=d*2^n) (λd _=>1000-d.toNat) ⟨rfl,8,rfl,O,O,by decide⟩ ?_;rintro(d:Int) u ⟨rfl,n,hst,hd1,hd2,hdn⟩;refine ar O O (nz O (ar (by rw[YR O];omega) (by rw[YR O];omega) ?_));rw[YR O];cases n with
 | zero=>simp at hdn;omega
 | succ n=>
  refine cN (λg=>ar O O ⟨⟨rfl,n,?_,O,O,?_⟩,O⟩) λb=>?_
  ·rw[xy,zC g]at hst;exact hst
  ·rw[Int.pow_succ]at hdn;have:2*d*2^n=d*(2^n*2):=by rw[Int.mul_comm 2 d,Int.mul_assoc,Int.mul_comm 2 (2^n)]
   omega
  ·rw[xy,zB b]at hst;rw[←hst]at hR;exact hR hd1 hd2
theorem Fp (x:T3)(h1:8<=x.1)(h2:x.1<=512)(h3:1<=x.2.1)(h4:x.2.1<=4){R:aN}(hR:∀σ',aF U σ'->R (mU x) σ'):Xc.c x.1 x.2.1 x.2.2 U R:=by
 refine Xc.o ?_;unfold Xc.v;refine nw (cs:=[.int .i64 x.1,.int .i64 x.2.1,.int .i64 x.2.2]) λv w e j=>?_;refine Qv (a:=bO) (λ(n:Int) u=>aF U u/\bZ u U.size [.int .i64 x.1,.int .i64 x.2.1,.int .i64 x.2.2]/\0<=n/\n<=128/\n*x.1<=x.2.1*256) (λn _=>1000-n.toNat) ⟨e,j,O,O,O⟩ ?_;rintro(n:Int) u ⟨eu,bu,hn0,hn1,hn⟩;have p:(n+1)*x.1<=129*512:=Int.mul_le_mul O h2 O O;have g:0<=(n+1)*x.1:=Int.mul_nonneg O O;refine ar O O (bu.rI rfl (ar O O (bu.rI rfl (ar O O ?_))));refine cN (λb=>ar O O ⟨⟨eu,bu,O,?_,b⟩,O⟩) λm=>?_
 ·have:(n+1)*8<=(n+1)*x.1:=Int.mul_le_mul_of_nonneg_left h1 O;omega
 ·have:mU x=n:=by
   unfold mU;have s:n<=x.2.1*256/x.1:=(Int.le_ediv_iff_mul_le O).2 hn;have r:x.2.1*256/x.1<n+1:=(Int.ediv_lt_iff_lt_mul O).2 O;omega
  have d:=hR u eu;rw[this]at d;exact d
end Go.Ar