/- Texts joined. -/
import Derived.Test.YtoeidadjhkkioaaGreatDoorL5
set_option linter.unusedVariables false
set_option linter.unusedSimpArgs false
namespace Go.Ar
variable {c:cA}{ss:List cH}
structure dI (c:cA) (ss:List cH):Prop where
 ok:c.ok
 tk:∀s∈ss,s.tk.length=c.n
 ud:ss.Pairwise λa b=>a.st+c.aG<=b.st
def Tk (c:cA)(ss:List cH)(x:Int):Prop:=eI c ss x=some true
def vX (c:cA)(ss:List cH)(p:Nat):Prop:=∃s∈ss,s.st<=p/\p<s.st+c.aG
theorem dI.pos (h:dI c ss):0<c.size:=by have:=h.ok;unfold cA.ok at this;omega
theorem dI.pg (h:dI c ss):1<=c.aG:=by have:=h.ok;unfold cA.ok at this;omega
theorem dI.ru (h:dI c ss):ss.Pairwise λa b=>a.st<b.st:=h.ud.imp λ{a b} d=>by have:=h.pg;omega
theorem dI.tV (h:dI c ss){i j:Nat}{s t:cH}(hi:ss[i]?=some s)(hj:ss[j]?=some t)(hij:i<j):s.st+c.aG<=t.st:=by
 obtain⟨a,rfl⟩:=cY.1 hi;obtain⟨b,rfl⟩:=cY.1 hj;exact mw.1 h.ud i j a b hij
theorem dI.x8 (h:dI c ss){i j:Nat}{s t:cH}{p:Nat}(hi:ss[i]?=some s)(hj:ss[j]?=some t)(h1:s.st<=p)(h2:p<s.st+c.aG)(h3:t.st<=p)(h4:p<t.st+c.aG):i=j:=by
 rcases qE i j with hl|hl|hl
 ·have:=h.tV hi hj hl;omega
 ·exact hl
 ·have:=h.tV hj hi hl;omega
theorem Ja (hp:0<c.size){s:cH}{i:Nat}(hi:i<c.n):s.st*256<=at_ c s i/\at_ c s i+c.size<=(s.st+c.aG)*256:=by
 have b:=cA.wP c;have a:(i+1)*c.size<=c.n*c.size:=mq _ hi;unfold at_;rw[zo]at a;omega
theorem Gj (hp:0<c.size){s:cH}{i x:Nat}(hi:i<c.n)(h1:at_ c s i<=x)(h2:x<at_ c s i+c.size):s.st<=x/256/\x/256<s.st+c.aG:=by
 have:=Ja hp (s:=s) hi;omega
theorem UW (h:dI c ss){k l:Nat}{s t:cH}{i j x:Nat}(hk:ss[k]?=some s)(hl:ss[l]?=some t)(hi:i<c.n)(hj:j<c.n)(h1:at_ c s i<=x)(h2:x<at_ c s i+c.size)(h3:at_ c t j<=x)(h4:x<at_ c t j+c.size):k=l/\s=t/\i=j:=by
 have b:=Gj h.pos hi h1 h2;have a:=Gj h.pos hj h3 h4;have e:=h.x8 hk hl b.1 b.2 a.1 a.2;subst e;rw[hk]at hl;cases hl;refine⟨rfl,rfl,?_⟩;unfold at_ at *;have d:=h.pos;rcases qE i j with hl|hl|hl
 ·have:(i+1)*c.size<=j*c.size:=mq _ hl;rw[zo]at this;omega
 ·exact hl
 ·have:(j+1)*c.size<=i*c.size:=mq _ hl;rw[zo]at this;omega
theorem Ei (h:dI c ss){s:cH}(hs:s∈ss){x:Int}{i:Nat}(hi:idx c s x=some i):i<c.n/\((s.st*256:Nat):Int)<=x/\x<(((s.st+c.aG)*256:Nat):Int)/\((at_ c s i:Nat):Int)<=x/\x<((at_ c s i+c.size:Nat):Int):=by
 obtain⟨d,b,a⟩:=(Ut h.pos).1 hi;rw[h.tk s hs]at a;have:=Ja h.pos (s:=s) a;have e:at_ c s (i+1)=at_ c s i+c.size:=by unfold at_;rw[zo];omega
 rw[e]at b;omega
theorem Fo (h:dI c ss){k:Nat}{s:cH}{x:Int}{i:Nat}(hs:ss[k]?=some s)(hi:idx c s x=some i):kY c ss x=some k:=by
 obtain⟨u,g⟩:=cY.1 hs;refine nI.2 ⟨u,by rw[g,hi];rfl,λj p r=>?_⟩;have d:j<ss.length:=by omega
 obtain⟨w,m⟩:=pF.1 r;have a:=Ei h (zG hs) hi;have b:=Ei h (kv d) m;have:=h.tV (cW d) hs p;omega
theorem IS (h:dI c ss){x:Int}{b:Bool}:eI c ss x=some b↔∃(k:Nat) (s:cH) (i:Nat),ss[k]?=some s/\i<c.n/\x=((at_ c s i:Nat):Int)/\s.is i=b:=by
 constructor
 ·intro hx;obtain⟨k,s,i,_,a,d,j⟩:=y7 hx;obtain⟨p,m⟩:=(U7 h.pos).1 d;rw[h.tk s (zG a)]at m;exact⟨k,s,i,a,m,p,j⟩
 ·rintro⟨k,s,i,a,hi,rfl,j⟩;have r:=h.tk s (zG a);have d:obj c s ((at_ c s i:Nat):Int)=some i:=(U7 h.pos).2 ⟨rfl,O⟩;have g:idx c s ((at_ c s i:Nat):Int)=some i:=(Ut h.pos).2 ⟨yp _,by have:=h.pos;unfold at_;rw[zo];omega,O⟩;rw[Uh (Fo h a g) a,d,←j];rfl
theorem Uf (h:dI c ss){x:Int}:Tk c ss x↔∃(k:Nat) (s:cH) (i:Nat),ss[k]?=some s/\i<c.n/\x=((at_ c s i:Nat):Int)/\s.is i=true:=IS h
theorem Ij (h:dI c ss){x:Int}{a:Nat}:rQ c ss x=some a↔∃(k:Nat) (s:cH) (i:Nat),ss[k]?=some s/\i<c.n/\a=at_ c s i/\((at_ c s i:Nat):Int)<=x/\x<((at_ c s i+c.size:Nat):Int):=by
 constructor
 ·intro hf;cases ho:kY c ss x with
  | none=>rw[Jr ho]at hf;cases hf
  | some k=>
   have g:=(nI.1 ho).1;have b:ss[k]?=some ss[k]:=cW g;rw[Gr ho b]at hf;obtain⟨i,hi,rfl⟩:=oH.1 hf;have:=Ei h (zG b) hi;exact⟨k,_,i,b,this.1,rfl,this.2.2.2.1,this.2.2.2.2⟩
 ·rintro⟨k,s,i,b,hi,rfl,h1,h2⟩;have j:=h.tk s (zG b);have e:at_ c s (i+1)=at_ c s i+c.size:=by unfold at_;rw[zo];omega
  have d:idx c s x=some i:=(Ut h.pos).2 ⟨h1,by rw[e];exact h2,O⟩;rw[Gr (Fo h b d) b,d];rfl
theorem dI.put (h:dI c ss){k i:Nat}{s:cH}(hs:ss[k]?=some s)(v:Bool):dI c (ss.set k (s.put i v)):=by
 have r:=(cY.1 hs).1;refine⟨h.ok,λt p=>?_,?_⟩
 ·rcases Am p with p|rfl
  ·exact h.tk t p
  ·rw[show(s.put i v).tk.length=s.tk.length by simp[cH.put]];exact h.tk s (zG hs)
 ·rw[mw];intro a b ha hb hab;have g:a<ss.length:=by simpa using ha
  have m:b<ss.length:=by simpa using hb
  have d:∀j (hj:j<(ss.set k (s.put i v)).length) (hj':j<ss.length),(ss.set k (s.put i v))[j].st=ss[j].st:=by
   intro j hj hj';rw[List.getElem_set];split
   ·rename_i e;subst e;have:ss[k]=s:=(cY.1 hs).2;rw[this];rfl
   ·rfl
  rw[d a ha g,d b hb m];exact mw.1 h.ud a b g m hab
theorem FP {k i:Nat}{s:cH}(hs:ss[k]?=some s)(v:Bool):(ss.set k (s.put i v)).map (·.st)=ss.map (·.st):=by
 apply zt;intro j;simp only[zZ];by_cases hjk:j=k
 ·subst hjk;rw[zO (cY.1 hs).1,hs];rfl
 ·rw[zh (Ne.symm hjk)]
theorem CU {s:cH}{i j:Nat}{v:Bool}(hi:i<s.tk.length):(s.put i v).is j=if j=i then v else s.is j:=by
 unfold cH.is cH.put;simp only[zQ];by_cases hj:j=i
 ·subst hj;rw[zO hi,zC rfl];rfl
 ·rw[zh (Ne.symm hj),zB hj]
theorem Lr (h:dI c ss){k i:Nat}{s:cH}(hs:ss[k]?=some s)(hi:i<c.n)(v:Bool){y:Int}:Tk c (ss.set k (s.put i v)) y↔(y=((at_ c s i:Nat):Int)/\v=true)\/(y≠((at_ c s i:Nat):Int)/\Tk c ss y):=by
 have b:=(cY.1 hs).1;have m:=h.tk s (zG hs);have g:=h.pos;rw[Uf (h.put hs v),Uf h];constructor
 ·rintro⟨l,t,j,ht,hj,rfl,hb⟩;by_cases hlk:l=k
  ·subst hlk;rw[zO b]at ht;cases ht;rw[CU O]at hb;by_cases a:j=i
   ·subst a;rw[zC rfl]at hb;exact .inl ⟨rfl,hb⟩
   ·rw[zB a]at hb;refine .inr ⟨λe=>a ?_,l,s,j,hs,hj,rfl,hb⟩;have d:at_ c s j=at_ c s i:=by have:=Int.ofNat.inj e;exact this
    exact(UW h hs hs hj hi (zD _) O O O).2.2
  ·rw[zh (Ne.symm hlk)]at ht;refine .inr ⟨λe=>hlk ?_,l,t,j,ht,hj,rfl,hb⟩;have d:at_ c t j=at_ c s i:=Int.ofNat.inj e;exact(UW h ht hs hj hi (zD _) O O O).1
 ·rintro(⟨rfl,rfl⟩|⟨hne,l,t,j,ht,hj,rfl,hb⟩)
  ·exact⟨k,s.put i true,i,zO b,hi,rfl,by rw[CU O,zC rfl]⟩
  ·by_cases hlk:l=k
   ·subst hlk;rw[hs]at ht;cases ht;have a:j≠i:=λe=>hne (by rw[e]);exact⟨l,s.put i v,j,zO b,hj,rfl,by rw[CU O,zB a];exact hb⟩
   ·exact⟨l,t,j,(zh (Ne.symm hlk)).trans ht,hj,rfl,hb⟩
theorem I8 {p:Nat}:vX c ss p↔∃x∈ss.map (·.st),x<=p/\p<x+c.aG:=by
 constructor
 ·rintro⟨s,a,h⟩;exact⟨_,zE.2 ⟨s,a,rfl⟩,h⟩
 ·rintro⟨x,hx,h⟩;obtain⟨s,a,rfl⟩:=zE.1 hx;exact⟨s,a,h⟩
theorem MC {ss':List cH}(e:ss'.map (·.st)=ss.map (·.st)){p:Nat}:vX c ss' p↔vX c ss p:=by rw[I8,I8,e]
theorem TI (h:dI c ss){x:Nat}{ss':List cH}(ho:jg c ss=some (x,ss')):dI c ss'/\ss'.map (·.st)=ss.map (·.st)/\¬Tk c ss (x:Int)/\∀y,Tk c ss' y↔y=(x:Int)\/Tk c ss y:=by
 unfold jg at ho;split at ho
 ·rename_i k hk;obtain⟨_,s,g,m⟩:=Ko hk;rw[g]at ho;simp only at ho;split at ho
  ·rename_i i hi;cases ho;obtain⟨r,w,p,u⟩:=AW m;rw[hi]at w;cases w;have j:i<c.n:=by rw[←h.tk s (zG g)];exact p
   have d:¬Tk c ss ((at_ c s i:Nat):Int):=λa=>by
    have z:=(IS h (x:=((at_ c s i:Nat):Int)) (b:=false)).2 ⟨k,s,i,g,j,rfl,u⟩;unfold Tk at a;rw[z]at a;cases a
   refine⟨h.put g true,FP g true,d,λy=>?_⟩;rw[Lr h g j];constructor
   ·rintro(⟨e,_⟩|⟨_,a⟩)
    ·exact .inl e
    ·exact .inr a
   ·rintro(e|a)
    ·exact .inl ⟨e,rfl⟩
    ·exact .inr ⟨λe=>d (e▸a),a⟩
  ·cases ho
 ·cases ho
theorem Gz:∀(m:Nat) {ss:List cH},dI c ss->dI c (KF c m ss).2/\(KF c m ss).2.map (·.st)=ss.map (·.st)/\(KF c m ss).1.length<=m/\(KF c m ss).1.Nodup/\(∀x∈(KF c m ss).1,¬Tk c ss (x:Int))/\∀y,Tk c (KF c m ss).2 y↔(∃x∈(KF c m ss).1,y=((x:Nat):Int))\/Tk c ss y
 | 0,ss,h=>⟨h,rfl,zD _,uD,by simp[KF],by simp[KF]⟩
 | m+1,ss,h=>by
  cases ho:jg c ss with
  | none=>
   have e:KF c (m+1) ss=([],ss):=by simp[KF,ho]
   rw[e];exact⟨h,rfl,by simp,uD,by simp,by simp⟩
  | some r=>
   obtain⟨x,j⟩:=r;rw[GW ho];obtain⟨s,A,d,a⟩:=TI h ho;obtain⟨u,g,B,i,b,z⟩:=Gz m s;refine⟨u,g.trans A,by simp;omega,zr.2 ⟨λw=>b x w ((a _).2 (.inl rfl)),i⟩,?_,λy=>?_⟩
   ·intro y hy;rcases zW.1 hy with rfl|hy
    ·exact d
    ·exact λp=>b y hy ((a _).2 (.inr p))
   ·rw[z,a];simp only[zW,exists_eq_or_imp];constructor
    ·rintro(h|h|h)
     ·exact .inl (.inr h)
     ·exact .inl (.inl h)
     ·exact .inr h
    ·rintro((h|h)|h)
     ·exact .inr (.inl h)
     ·exact .inl h
     ·exact .inr (.inr h)
theorem ID:∀(xs:List Int) {ss:List cH},dI c ss->kC c ss xs->dI c (xs.foldl (fL c) ss)/\(xs.foldl (fL c) ss).map (·.st)=ss.map (·.st)/\∀y,Tk c (xs.foldl (fL c) ss) y↔Tk c ss y/\y∉xs
 | [],ss,h,_=>⟨h,rfl,by simp⟩
 | x::xs,ss,h,hA=>by
  have hx:=hA.1 x aA;obtain⟨k,s,i,u,d,j,_⟩:=y7 hx;obtain⟨b,a⟩:=(U7 h.pos).1 j;rw[h.tk s (zG d)]at a;have e:=Bf u d j;have r:=h.put d false (i:=i);have g:=hA.next h.pos;obtain⟨w,m,p⟩:=ID xs (ss:=fL c ss x) (by rw[e];exact r) g;rw[si];refine⟨w,m.trans (by rw[e];exact FP d false),λy=>?_⟩;rw[p,e,Lr h d a,←b];simp only[za,and_false,false_or,zW,not_or];constructor
  ·rintro⟨⟨b,a⟩,h3⟩;exact⟨a,b,h3⟩
  ·rintro⟨a,b,h3⟩;exact⟨⟨b,a⟩,h3⟩
theorem F7 {s:cH}(h0:s.many=0)(i:Nat):s.is i=false:=by
 unfold cH.many at h0;rw[Al]at h0;unfold cH.is;rw[zQ];cases hi:s.tk[i]? with
 | none=>rfl
 | some b=>
  cases b
  ·rfl
  ·exact absurd (zG hi) h0
theorem dI.cK (h:dI c ss):dI c (Go.Ar.cK ss):=⟨h.ok,λs a=>h.tk s (zL.1 a).1,h.ud.filter _⟩
theorem FJ (h:dI c ss){y:Int}:Tk c (cK ss) y↔Tk c ss y:=by
 rw[Uf h.cK,Uf h];constructor
 ·rintro⟨k,s,i,hs,hi,rfl,hb⟩;obtain⟨l,a⟩:=zP (zL.1 (zG hs)).1;exact⟨l,s,i,a,hi,rfl,hb⟩
 ·rintro⟨k,s,i,hs,hi,rfl,hb⟩;have:s∈cK ss:=zL.2 ⟨zG hs,by
   have:s.many≠0:=λb=>by rw[F7 b i]at hb;cases hb
   simpa using this⟩
  obtain⟨l,a⟩:=zP this;exact⟨l,s,i,a,hi,rfl,hb⟩
theorem DV {x:Nat}:x∈QX ss↔∃s∈ss,s.many=0/\s.st=x:=by
 unfold QX;simp only[zE,zL,zU,and_assoc]
theorem JI (h:dI c ss){p:Nat}:vX c (cK ss) p↔vX c ss p/\¬∃x∈QX ss,x<=p/\p<x+c.aG:=by
 constructor
 ·rintro⟨s,hs,h1,h2⟩;have d:=zL.1 hs;refine⟨⟨s,d.1,h1,h2⟩,?_⟩;rintro⟨x,hx,h3,h4⟩;obtain⟨t,g,b,rfl⟩:=DV.1 hx;obtain⟨i,hi⟩:=zP d.1;obtain⟨j,a⟩:=zP g;have e:=h.x8 hi a h1 h2 h3 h4;subst e;rw[hi]at a;cases a;simp[b]at d
 ·rintro⟨⟨s,hs,h1,h2⟩,hn⟩;refine⟨s,zL.2 ⟨hs,?_⟩,h1,h2⟩;have:s.many≠0:=λb=>hn ⟨s.st,DV.2 ⟨s,hs,b,rfl⟩,h1,h2⟩;simpa using this
theorem TZ (h:dI c ss):(QX ss).Pairwise λa b=>a+c.aG<=b:=by
 unfold QX;rw[sR];exact h.ud.filter _
theorem VV {st:Nat}{t:cH}:t∈iu c ss st↔t=⟨st,List.replicate c.n false⟩\/t∈ss:=by
 unfold iu;rw[zM,zW];have:t∈ss↔t∈ss.takeWhile (λs=>decide (s.st<st))\/t∈ss.dropWhile (λs=>decide (s.st<st)):=by
  rw[←zM,List.takeWhile_append_dropWhile]
 rw[this];constructor
 ·rintro(h|h|h)
  ·exact .inr (.inl h)
  ·exact .inl h
  ·exact .inr (.inr h)
 ·rintro(h|h|h)
  ·exact .inr (.inl h)
  ·exact .inl h
  ·exact .inr (.inr h)
theorem JB (h:dI c ss){st:Nat}(hd:∀s∈ss,s.st+c.aG<=st\/st+c.aG<=s.st):dI c (iu c ss st):=by
 refine⟨h.ok,λs m=>?_,?_⟩
 ·rcases VV.1 m with rfl|m
  ·simp
  ·exact h.tk s m
 ·have g:=Gn h.ru st;have r:=h.pg;rw[xI];refine qP.2 ⟨h.ud.sublist (BE _ _),sG.2 ⟨λb d=>?_,h.ud.sublist (List.drop_sublist _ _)⟩,λa u b d=>?_⟩
  ·obtain⟨i,hi⟩:=zP d;rw[lj]at hi;have:=g.2 _ _ hi;rcases hd b (ue d)with h1|h1
   ·omega
   ·exact h1
  ·obtain⟨i,hi⟩:=zP u;rw[zl]at hi;split at hi
   ·rename_i hlt;rcases zW.1 d with rfl|d
    ·have:=(g.2 _ _ hi).2 hlt;rcases hd a (zG hi)with h1|h1
     ·exact h1
     ·omega
    ·obtain⟨j,p⟩:=zP d;rw[lj]at p;exact h.tV hi p O
   ·cases hi
theorem EF (h:dI c ss){st:Nat}(hd:∀s∈ss,s.st+c.aG<=st\/st+c.aG<=s.st){y:Int}:Tk c (iu c ss st) y↔Tk c ss y:=by
 rw[Uf (JB h hd),Uf h];constructor
 ·rintro⟨k,s,i,hs,hi,rfl,hb⟩;rcases VV.1 (zG hs)with rfl|hm
  ·have:(⟨st,List.replicate c.n false⟩:cH).is i=false:=F7 (by simp[cH.many,yC]) i;rw[this]at hb;cases hb
  ·obtain⟨l,a⟩:=zP hm;exact⟨l,s,i,a,hi,rfl,hb⟩
 ·rintro⟨k,s,i,hs,hi,rfl,hb⟩;obtain⟨l,a⟩:=zP (VV.2 (.inr (zG hs)):s∈iu c ss st);exact⟨l,s,i,a,hi,rfl,hb⟩
theorem M6 {st:Nat}(hd:∀s∈ss,s.st+c.aG<=st\/st+c.aG<=s.st):G8 c ss st=0:=by
 unfold G8;rw[zB];simp only[zy,zV,not_exists,not_and];intro s hs hlt;rcases hd s hs with h|h<;>omega
end Go.Ar
namespace Go.Ar
open Go.Bu (ZE Kj ZB qy VP dH take KP Vm Bounded)
def gf (st:List Nat)(p:Nat):Nat:=st.getD p 0
def AR.f (A:AR)(p:Nat):Nat:=gf A.st p
def m4 (rs:List (Nat×Nat))(p:Nat):Prop:=∃r∈rs,r.1<=p/\p<r.1+r.2
theorem I4 {st:List Nat}{p:Nat}(h:gf st p≠0):p<st.length:=by
 apply Classical.byContradiction;intro hn;exact h (by unfold gf;rw[zQ,zX O];rfl)
theorem vQ {st:List Nat}{a b v p:Nat}(hb:b<=st.length):gf (gF st a b v) p=if a<=p/\p<b then v else gf st p:=by
 unfold gf;rw[zQ,zQ,HG];by_cases hp:p<st.length
 ·rw[cW hp];simp only[ze,qG]
 ·rw[zX O,zB O];rfl
theorem UO {n a m:Nat}:ZE n (a:Int) (m:Int)=true↔1<=m/\a+m<=n:=by
 simp only[ZE,zF,zV];omega
theorem MR {st:List Nat}{a m:Nat}{fr:List Nat}(hl:a+m<=st.length):vY st a m fr=true↔∀p,a<=p->p<a+m->gf st p∈fr:=by
 unfold vY;rw[kz];constructor
 ·intro h p h1 h2;have b:p<st.length:=by omega
  have:st[p]∈(st.drop a).take m:=by
   refine zG (i:=p-a) ?_;rw[zl,zC O,lj,show a+(p-a)=p by omega,cW b]
  have:=h _ this;unfold gf;rw[zQ,cW b];simpa using this
 ·intro h x hx;obtain⟨i,hi⟩:=zP hx;rw[zl]at hi;split at hi
  ·rename_i hlt;rw[lj]at hi;have:=h (a+i) O O;unfold gf at this;rw[zQ,hi]at this;simpa using this
  ·cases hi
theorem FG {st:List Nat}{a m v:Nat}{fr:List Nat}(h1:1<=m)(hl:a+m<=st.length)(h:∀p,a<=p->p<a+m->gf st p∈fr):U4 st (a:Int) (m:Int) v fr=gF st a (a+m) v:=by
 unfold U4 oS;rw[zC (UO.2 ⟨h1,hl⟩),dF,dF,(MR hl).2 h];rfl
structure PG (A:AR):Prop where
 len:A.st.length=A.n
 n1:32<=A.n
 n2:A.n<=1024
 n16:A.n%16=0
 le:∀p,A.f p<=3
 us:∀p,A.f p=1↔A.ow p≠0
 fr:∀p,A.S p=true↔2<=A.f p
 hp:∀p,A.f p=0↔A.f (p/16*16)=0
theorem PG.lt {A:AR}(h:PG A){p:Nat}(hp:A.f p≠0):p<A.n:=h.len▸I4 hp
theorem PG.jJ {A:AR}(h:PG A):Bounded A.S A.n:=λp a=>h.lt (by have:=(h.fr p).1 a;omega)
theorem PG.kA {A:AR}(h:PG A){p q:Nat}(e:p/16=q/16):A.f p=0↔A.f q=0:=by rw[h.hp p,h.hp q,e]
theorem PG.same {A B:AR}(h:PG A)(e1:B.n=A.n)(e2:B.st=A.st)(e3:B.S=A.S)(e4:B.ow=A.ow):PG B:=by
 have a:∀p,B.f p=A.f p:=λp=>by unfold AR.f;rw[e2]
 exact⟨by rw[e2,e1];exact h.len,by rw[e1];exact h.n1,by rw[e1];exact h.n2,by rw[e1];exact h.n16,λp=>by rw[a];exact h.le p,λp=>by rw[a,e4];exact h.us p,λp=>by rw[a,e3];exact h.fr p,λp=>by rw[a,a];exact h.hp p⟩
theorem EJ {ow:Nat->Nat}{a m no:Nat}(h1:1<=m)(h2:a+m<=1024)(p:Nat):jM ow a m no p=if a<=p/\p<a+m then no else ow p:=by
 unfold jM;rw[zC (UO.2 ⟨h1,h2⟩)]
theorem Lp {n:Nat}{S:Nat->Bool}{a m:Nat}(h1:1<=m)(h2:a+m<=n)(h:∀p,a<=p->p<a+m->S p=false):Kj n S (a:Int) (m:Int)=dH S a (a+m):=by
 unfold Kj;rw[UO.2 ⟨h1,h2⟩,dF,dF,VP.2 h];rfl
structure Out (A B:AR) (a b:Nat):Prop where
 n:B.n=A.n
 len:B.st.length=A.st.length
 f:∀p,¬(a<=p/\p<b)->B.f p=A.f p
 ow:∀p,¬(a<=p/\p<b)->B.ow p=A.ow p
 S:∀p,¬(a<=p/\p<b)->B.S p=A.S p
theorem Out.pg {A B:AR}{a b v:Nat}(o:Out A B a b)(h:PG A)(hv:v<=3)(hf:∀p,a<=p->p<b->B.f p=v)(hw:∀p,a<=p->p<b->(v=1↔B.ow p≠0))(hS:∀p,a<=p->p<b->(B.S p=true↔2<=v))
 (hz:∀p,B.f p=0↔B.f (p/16*16)=0):PG B:=by
 refine⟨by rw[o.len,o.n];exact h.len,by rw[o.n];exact h.n1,by rw[o.n];exact h.n2,by rw[o.n];exact h.n16,λp=>?_,λp=>?_,λp=>?_,hz⟩
 ·by_cases hp:a<=p/\p<b
  ·rw[hf p hp.1 hp.2];exact hv
  ·rw[o.f p hp];exact h.le p
 ·by_cases hp:a<=p/\p<b
  ·rw[hf p hp.1 hp.2];exact hw p hp.1 hp.2
  ·rw[o.f p hp,o.ow p hp];exact h.us p
 ·by_cases hp:a<=p/\p<b
  ·rw[hf p hp.1 hp.2];exact hS p hp.1 hp.2
  ·rw[o.f p hp,o.S p hp];exact h.fr p
theorem Out.zero {A B:AR}{a b v:Nat}(o:Out A B a b)(h:PG A)(hf:∀p,a<=p->p<b->B.f p=v)(hv:v≠0)(hA:∀p,a<=p->p<b->A.f p≠0):∀p,B.f p=0↔A.f p=0:=by
 intro p;by_cases hp:a<=p/\p<b
 ·rw[hf p hp.1 hp.2];exact⟨λe=>(hv e).elim,λe=>(hA p hp.1 hp.2 e).elim⟩
 ·rw[o.f p hp]
theorem FT {A B:AR}(h:PG A)(e:∀p,B.f p=0↔A.f p=0):∀p,B.f p=0↔B.f (p/16*16)=0:=λp=>by rw[e,e];exact h.hp p
theorem Ln {A:AR}(h:PG A){a m:Nat}(h1:1<=m)(hu:∀p,a<=p->p<a+m->A.f p=1):Out A (UC A (a,m)) a (a+m)/\(∀p,a<=p->p<a+m->(UC A (a,m)).f p=2/\(UC A (a,m)).ow p=0)/\PG (UC A (a,m))/\∀p,(UC A (a,m)).f p=0↔A.f p=0:=by
 have j:a+m<=A.n:=by have:=h.lt (p:=a+m-1) (by rw[hu _ O O];omega);omega
 have x:=h.n2;have e1:(UC A (a,m)).st=gF A.st a (a+m) 2:=FG h1 (by rw[h.len];exact j) λp d b=>by
  have:=hu p d b;unfold AR.f at this;rw[this];simp
 have e2:(UC A (a,m)).S=dH A.S a (a+m):=Lp h1 j λp d b=>by
  apply nL.2;intro hS;have:=(h.fr p).1 hS;have:=hu p d b;omega
 have s:∀p,(UC A (a,m)).ow p=if a<=p/\p<a+m then 0 else A.ow p:=λp=>EJ h1 O p
 have r:∀p,(UC A (a,m)).f p=if a<=p/\p<a+m then 2 else A.f p:=λp=>by unfold AR.f;rw[e1,vQ (by rw[h.len];exact j)]
 have o:Out A (UC A (a,m)) a (a+m):=⟨rfl,by rw[e1,Vs],λp g=>by rw[r,zB g],λp g=>by rw[s,zB g],λp g=>by
  rw[e2];unfold dH;have:(decide (a<=p)&&decide (p<a+m))=false:=by simp;omega
  rw[this,Bool.or_false]⟩
 have i:∀p,a<=p->p<a+m->(UC A (a,m)).f p=2:=λp d b=>by rw[r,zC ⟨d,b⟩]
 have w:∀p,a<=p->p<a+m->(UC A (a,m)).ow p=0:=λp d b=>by rw[s,zC ⟨d,b⟩]
 have u:=o.zero h i O λp d b=>by rw[hu p d b];omega
 refine⟨o,λp d b=>⟨i p d b,w p d b⟩,o.pg h O i (λp d b=>by rw[w p d b];simp) (λp d b=>?_) (FT h u),u⟩;rw[e2,KP];exact⟨λ_=>zD _,λ_=>.inr ⟨d,b⟩⟩
structure tv (A B:AR) (rs:List (Nat×Nat)):Prop where
 pg:PG B
 n:B.n=A.n
 tb:B.tb=A.tb
 room:B.room=A.room
 cR:B.cR=A.cR
 cG:B.cG=A.cG
 runs:B.runs=A.runs
 i:∀p,m4 rs p->B.f p=2/\B.ow p=0
 o:∀p,¬m4 rs p->B.f p=A.f p/\B.ow p=A.ow p
 z:∀p,B.f p=0↔A.f p=0
theorem FA:∀(rs:List (Nat×Nat)) {A:AR},PG A->(∀r∈rs,1<=r.2)->(∀r∈rs,∀p,r.1<=p->p<r.1+r.2->A.f p=1)->rs.Pairwise (λa b=>a.1+a.2<=b.1\/b.1+b.2<=a.1)->tv A (UJ A rs) rs
 | [],A,h,_,_,_=>⟨h,rfl,rfl,rfl,rfl,rfl,rfl,λp ⟨r,hr,_⟩=>by simp at hr,λp _=>⟨rfl,rfl⟩,λp=>Iff.rfl⟩
 | (a,m)::rs,A,h,hp,hu,hd=>by
  have hd':=sG.1 hd;obtain⟨o,hi,x,B⟩:=Ln h (hp _ (mO ..)) (hu _ (mO ..));have d:=FA rs x (λr hr=>hp r (mc _ hr)) (λr hr p u s=>by
   have:=hd'.1 r hr;simp only at this;rw[o.f p O];exact hu r (mc _ hr) p u s) hd'.2
  have e:UJ A ((a,m)::rs)=UJ (UC A (a,m)) rs:=rfl;rw[e];refine⟨d.pg,d.n,d.tb,d.room,d.cR,d.cG,d.runs,λp g=>?_,λp g=>?_,λp=>(d.z p).trans (B p)⟩
  ·by_cases j:m4 rs p
   ·exact d.i p j
   ·have:=d.o p j;obtain⟨r,hr,u,s⟩:=g;rcases zW.1 hr with rfl|hr
    ·rw[this.1,this.2];exact hi p u s
    ·exact(j ⟨r,hr,u,s⟩).elim
  ·have j:¬m4 rs p:=λ⟨r,hr,w⟩=>g ⟨r,mc _ hr,w⟩;have y:¬(a<=p/\p<a+m):=λw=>g ⟨(a,m),mO ..,w⟩;have:=d.o p j;exact⟨this.1.trans (o.f p y),this.2.trans (o.ow p y)⟩
theorem BX {A:AR}(h:PG A){a m no:Nat}(h1:1<=m)(hn:no≠0)(hS:∀p,a<=p->p<a+m->A.S p=true):Out A (dT A a m no) a (a+m)/\(∀p,a<=p->p<a+m->(dT A a m no).f p=1/\(dT A a m no).ow p=no)/\PG (dT A a m no)/\∀p,(dT A a m no).f p=0↔A.f p=0:=by
 have j:∀p,a<=p->p<a+m->2<=A.f p:=λp d b=>(h.fr p).1 (hS p d b);have u:a+m<=A.n:=by have:=h.lt (p:=a+m-1) (by have:=j (a+m-1) O O;omega);omega
 have B:=h.n2;have e1:(dT A a m no).st=gF A.st a (a+m) 1:=FG h1 (by rw[h.len];exact u) λp d b=>by
  have z:=j p d b;have y:=h.le p;unfold AR.f at z y;have:gf A.st p=2\/gf A.st p=3:=by omega
  simpa using this
 have s:∀p,(dT A a m no).ow p=if a<=p/\p<a+m then no else A.ow p:=λp=>EJ h1 O p
 have r:∀p,(dT A a m no).f p=if a<=p/\p<a+m then 1 else A.f p:=λp=>by unfold AR.f;rw[e1,vQ (by rw[h.len];exact u)]
 have o:Out A (dT A a m no) a (a+m):=⟨rfl,by rw[e1,Vs],λp g=>by rw[r,zB g],λp g=>by rw[s,zB g],λp g=>by
  show take A.S a (a+m) p=A.S p;unfold take;have:(decide (a<=p)&&decide (p<a+m))=false:=by simp;omega
  rw[this];simp⟩
 have i:∀p,a<=p->p<a+m->(dT A a m no).f p=1:=λp d b=>by rw[r,zC ⟨d,b⟩]
 have x:∀p,a<=p->p<a+m->(dT A a m no).ow p=no:=λp d b=>by rw[s,zC ⟨d,b⟩]
 have w:=o.zero h i O λp d b=>by have:=j p d b;omega
 refine⟨o,λp d b=>⟨i p d b,x p d b⟩,o.pg h O i (λp d b=>by rw[x p d b];simp[hn]) (λp d b=>?_) (FT h w),w⟩;show take A.S a (a+m) p=true↔_;rw[Vm];constructor
 ·rintro⟨_,hx⟩;exact(hx ⟨d,b⟩).elim
 ·intro hx;omega
theorem Fu:∀(m:Nat) {st:List Nat} {a:Nat},(a+m)*16<=st.length->(∀p,a*16<=p->p<(a+m)*16->gf st p=0)->(Hj st a m).length=st.length/\∀p,gf (Hj st a m) p=if a*16<=p/\p<(a+m)*16 then 3 else gf st p
 | 0,st,a,hl,hz=>⟨rfl,λp=>by rw[zB O];rfl⟩
 | m+1,st,a,hl,hz=>by
  obtain⟨i1,i2⟩:=Fu m (st:=st) (a:=a) O λp d g=>hz p d O;rw[F5];have b:gf (Hj st a m) (16*(a+m))=0:=by rw[i2,zB O];exact hz _ O O
  have ok:kG (Hj st a m) ((a+m:Nat):Int)=0:=by
   unfold kG;rw[FM (by rw[i1];omega),zC rfl,dF];unfold gf at b;rw[zC b]
  have e:je (Hj st a m) ((a+m:Nat):Int)=gF (Hj st a m) (16*(a+m)) (16*(a+m)+16) 3:=by
   unfold je;rw[zC ok,dF]
  rw[e];refine⟨by rw[Vs,i1],λp=>?_⟩;rw[vQ (by rw[i1];omega),i2];by_cases h1:16*(a+m)<=p/\p<16*(a+m)+16
  ·rw[zC h1,zC O]
  ·rw[zB h1];by_cases h2:a*16<=p/\p<(a+m)*16
   ·rw[zC h2,zC O]
   ·rw[zB h2,zB O]
theorem C3 {sp:Sp}{s m:Nat}(h:fH sp (s:Int) (m:Int)=0):1<=m/\s+m<=sp.st.length/\∀p,s<=p->p<s+m->gf sp.st p=0:=by
 unfold fH at h;split at h
 ·rename_i hr;obtain⟨b,g⟩:=UO.1 hr;rw[dF,dF]at h;split at h
  ·cases h
  ·rename_i hn;refine⟨b,g,λp r j=>?_⟩;have a:p<sp.st.length:=by omega
   have d:sp.st[p]∈(sp.st.drop s).take m:=by
    refine zG (i:=p-s) ?_;rw[zl,zC O,lj,show s+(p-s)=p by omega,cW a]
   simp only[zy,not_exists,not_and]at hn;have:=hn _ d;unfold gf;rw[zQ,cW a];simpa using this
 ·cases h
structure Grown (A B:AR) (sp sp':Sp) (s size:Nat):Prop where
 pg:PG B
 n:B.n=A.n
 tb:B.tb=A.tb
 room:B.room=A.room
 cR:B.cR=A.cR
 cG:B.cG=A.cG
 runs:B.runs=A.runs
 ow:B.ow=A.ow
 RK:s%16=0
 s1:16<=s
 sl:s+size<=A.n
 un:∀p,s<=p->p<s+size->gf sp.st p=0
 i:∀p,s<=p->p<s+size->B.f p=3/\gf sp'.st p=1
 o:∀p,¬(s<=p/\p<s+size)->B.f p=A.f p/\gf sp'.st p=gf sp.st p
 w:∀x,¬(s*32<=x/\x<(s+size)*32)->sp'.wd x=sp.wd x
 l:sp'.st.length=sp.st.length
 pk:sp'.pk=sp.pk
theorem Hm {sp:Sp}{size s:Nat}(h1:1<=size)(h:dB sp size=some s):fH sp (s:Int) (size:Int)=0/\s≠0/\(∃j,s=j*size)/\∀j,j*size<s->1<=j->fH sp ((j*size:Nat):Int) (size:Int)≠0:=by
 unfold dB at h;obtain⟨r,us,vs,w,A⟩:=List.find?_eq_some_iff_append.1 h;simp only[zF,bne_iff_ne,ne_eq,zU]at r;have m:s∈(List.range (sp.st.length/size)).map (· * size):=by rw[w];simp
 obtain⟨j,z,rfl⟩:=zE.1 m;rw[zg]at z;refine⟨r.2,r.1,⟨j,rfl⟩,λi hi y=>?_⟩;have x:i<j:=Nat.lt_of_mul_lt_mul_right hi;have:i*size∈us:=by
  have g:i*size∈(List.range (sp.st.length/size)).map (· * size):=zE.2 ⟨i,zg.2 O,rfl⟩;have d:((List.range (sp.st.length/size)).map (· * size)).Pairwise (· < ·):=by
   rw[sR];exact List.pairwise_lt_range.imp λ{a b} u=>Nat.mul_lt_mul_of_pos_right u O
  rw[w]at g d;rcases zM.1 g with h|h
  ·exact h
  ·rcases zW.1 h with h|h
   ·have:=xj O h;omega
   ·have:=(sG.1 (qP.1 d).2.1).1 _ h;omega
 have:=A _ this;have p:i*size≠0:=by
  have:=Nat.mul_pos (show 0<i by omega) (show 0<size by omega);omega
 simpa[p]using this
theorem Ir {sp:Sp}{s m:Nat}(h:fH sp (s:Int) (m:Int)=0):(gg sp (s:Int) (m:Int)).st.length=sp.st.length/\(∀p,gf (gg sp (s:Int) (m:Int)).st p=if s<=p/\p<s+m then 1 else gf sp.st p)/\(∀x,¬(s*32<=x/\x<(s+m)*32)->(gg sp (s:Int) (m:Int)).wd x=sp.wd x)/\(gg sp (s:Int) (m:Int)).pk=sp.pk:=by
 obtain⟨d,b,_⟩:=C3 h;unfold gg;rw[zC h,dF,dF];refine⟨by simp[Sp.set,Vs],λp=>vQ b,λx a=>?_,rfl⟩;show(if s*32<=x/\x<(s+m)*32 then 0 else sp.wd x)=_
 rw[zB a]
theorem Tu {A:AR}{sp:Sp}(h:PG A)(hl:sp.st.length=A.n)(hz:∀p,gf sp.st p=0->A.f p=0){size:Nat}(hs:size=16\/size=32\/size=64){B:AR}{sp':Sp}(hg:Hk A sp size=some (B,sp')) :
 ∃s,dB sp size=some s/\Grown A B sp sp' s size:=by
 unfold Hk at hg;split at hg
 ·cases hg
 ·rename_i s hgs;cases hg;obtain⟨x,G,⟨j,K⟩,_⟩:=Hm O hgs;obtain⟨F,y,z⟩:=C3 x;have u:s%16=0:=by rcases hs with rfl|rfl|rfl<;>omega
  have C:size%16=0:=by rcases hs with rfl|rfl|rfl<;>omega
  have e1:s/16*16=s:=by omega
  have e2:(s/16+size/16)*16=s+size:=by omega
  have g:∀p,s<=p->p<s+size->A.f p=0:=λp d b=>hz p (z p d b);obtain⟨H,m⟩:=Fu (size/16) (st:=A.st) (a:=s/16) (by rw[e2,h.len,←hl];exact y) (by rw[e1,e2];exact g);rw[e1,e2]at m;obtain⟨J,D,E,b4⟩:=Ir x;have i:s+size<=A.n:=by rw[←hl];exact y
  have w:Kj A.n A.S (s:Int) (size:Int)=dH A.S s (s+size):=Lp F i λp d b=>by
   apply nL.2;intro hS;have:=(h.fr p).1 hS;have:=g p d b;omega
  refine⟨s,hgs,⟨?_,rfl,rfl,rfl,rfl,rfl,rfl,rfl,u,O,i,z,λp d b=>⟨?_,?_⟩,λp hp=>⟨?_,?_⟩,E,J,b4⟩⟩
  ·have o:Out A {A with st:=Hj A.st (s/16) (size/16),S:=Kj A.n A.S (s:Int) (size:Int)} s (s+size):=⟨rfl,H,λp hp=>by show gf _ p=_;rw[m,zB hp];rfl,λp hp=>rfl,λp hp=>by
    show Kj A.n A.S (s:Int) (size:Int) p=A.S p;rw[w];unfold dH;have:(decide (s<=p)&&decide (p<s+size))=false:=by simp;omega
    rw[this,Bool.or_false]⟩
   have r:∀p,s<=p->p<s+size->AR.f {A with st:=Hj A.st (s/16) (size/16),S:=Kj A.n A.S (s:Int) (size:Int)} p=3:=λp d b=>by show gf _ p=3;rw[m,zC ⟨d,b⟩]
   refine o.pg h (zD _) r (λp d b=>?_) (λp d b=>?_) λp=>?_
   ·have G:=g p d b;have:=h.us p;constructor
    ·intro hx;omega
    ·intro hx;have:=this.2 hx;omega
   ·show Kj A.n A.S (s:Int) (size:Int) p=true↔_;rw[w,KP];exact⟨λ_=>O,λ_=>.inr ⟨d,b⟩⟩
   ·by_cases hp:s<=p/\p<s+size
    ·rw[r p hp.1 hp.2,r (p/16*16) O O]
    ·rw[o.f p hp,o.f (p/16*16) O];exact h.hp p
  ·show gf (Hj A.st (s/16) (size/16)) p=3;rw[m,zC ⟨d,b⟩]
  ·rw[D,zC ⟨d,b⟩]
  ·show gf (Hj A.st (s/16) (size/16)) p=A.f p;rw[m,zB hp];rfl
  ·rw[D,zB hp]
end Go.Ar
namespace Go.Ar
open Go.Bu (ZE Kj ZB qy VP dH take KP Vm Bounded full can YU U5 Z0 Kl Z9 W7 Kn QJ)
def Cl (A:AR)(k:Nat)(c:cA)(ss:List cH):Prop:=A.tb[k]?=some c/\A.cG[k]?=some ss
def fS (A:AR)(k:Nat)(x:Int):Prop:=∃c ss,Cl A k c ss/\Tk c ss x
def ie (A:AR)(k:Nat)(x:Int):Prop:=∃t,A.cR[k]?=some t/\x∈t.bs.flatten
structure GA (A:AR):Prop where
 pg:PG A
 tb:A.tb.length<=40
 lc:A.cG.length=A.tb.length
 lt:A.cR.length=A.tb.length
 cG:∀k c ss,Cl A k c ss->dI c ss
 one:∀k c ss,Cl A k c ss->∀s∈ss,s.st/16=(s.st+c.aG-1)/16
 ow:∀k c ss,Cl A k c ss->∀p,A.ow p=k+1↔vX c ss p
 jX:∀p,A.ow p=41↔m4 A.runs p
 sT:∀p,A.ow p=41\/A.ow p<=A.tb.length
 ia:∀r∈A.runs,1<=r.2
 kE:A.runs.Pairwise λa b=>a.1+a.2<=b.1\/b.1+b.2<=a.1
 qC:∀(k:Nat) (t:gT),A.cR[k]?=some t->t.bs.flatten.Nodup
 mu:∀(k:Nat) c ss (t:gT),Cl A k c ss->A.cR[k]?=some t->∀x∈t.bs.flatten,Tk c ss x
 pS:∀(k:Nat) (c:cA) (t:gT),A.tb[k]?=some c->A.cR[k]?=some t->∀xs∈t.bs,xs.length=c.batch
structure Kp (A B:AR):Prop where
 n:B.n=A.n
 tb:B.tb=A.tb
 room:B.room=A.room
 z:∀p,B.f p=0↔A.f p=0
 t:∀p,B.f p=3->A.f p=3
theorem Kp.refl (A:AR):Kp A A:=⟨rfl,rfl,rfl,λ_=>Iff.rfl,λ_=>id⟩
theorem Kp.trans {A B C:AR}(h:Kp A B)(k:Kp B C):Kp A C:=⟨k.n.trans h.n,k.tb.trans h.tb,k.room.trans h.room,λp=>(k.z p).trans (h.z p),λp a=>h.t p (k.t p a)⟩
theorem Kp.aG {A B:AR}(e1:B.n=A.n)(e2:B.tb=A.tb)(e3:B.room=A.room)(e4:B.st=A.st):Kp A B:=⟨e1,e2,e3,λp=>by unfold AR.f;rw[e4],λp=>by unfold AR.f;rw[e4];exact id⟩
variable {A:AR}{k:Nat}{c:cA}{ss:List cH}
theorem Cl.lt (h:Cl A k c ss):k<A.tb.length:=(cY.1 h.1).1
theorem Cl.eq {c':cA}{ss':List cH}(h:Cl A k c ss)(h':Cl A k c' ss'):c=c'/\ss=ss':=⟨Option.some.inj (h.1.symm.trans h'.1),Option.some.inj (h.2.symm.trans h'.2)⟩
theorem GA.cl (h:GA A){k:Nat}(hk:k<A.tb.length):∃c ss t,Cl A k c ss/\A.cR[k]?=some t:=by
 have a:=h.lc;have b:=h.lt;exact⟨A.tb[k],A.cG[k],A.cR[k],⟨by simp,by simp⟩,by simp⟩
theorem GA.used (h:GA A)(hk:Cl A k c ss){s:cH}(hs:s∈ss){p:Nat}(h1:s.st<=p)(h2:p<s.st+c.aG):A.f p=1/\A.ow p=k+1:=by
 have:=(h.ow k c ss hk p).2 ⟨s,hs,h1,h2⟩;exact⟨(h.pg.us p).2 O,this⟩
theorem GA.jE (h:GA A){r:Nat×Nat}(hr:r∈A.runs){p:Nat}(h1:r.1<=p)(h2:p<r.1+r.2):A.f p=1/\A.ow p=41:=by
 have:=(h.jX p).2 ⟨r,hr,h1,h2⟩;exact⟨(h.pg.us p).2 O,this⟩
theorem GA.hU (h:GA A){r s:Nat×Nat}(hr:r∈A.runs)(hs:s∈A.runs){x:Nat}(h1:r.1<=x)(h2:x<r.1+r.2)(h3:s.1<=x)(h4:x<s.1+s.2):r=s:=by
 obtain⟨i,hi⟩:=zP hr;obtain⟨j,d⟩:=zP hs;obtain⟨b,rfl⟩:=cY.1 hi;obtain⟨a,rfl⟩:=cY.1 d;rcases qE i j with hl|hl|hl
 ·have:=mw.1 h.kE i j b a hl;omega
 ·subst hl;rfl
 ·have:=mw.1 h.kE j i a b hl;omega
theorem GA.fit (h:GA A){r:Nat×Nat}(hr:r∈A.runs):r.1+r.2<=A.n:=by
 have:=h.ia r hr;have:=h.pg.lt (p:=r.1+r.2-1) (by rw[(h.jE hr (p:=r.1+r.2-1) O O).1];omega);omega
theorem GA.pW (h:GA A):iQ A:=by
 have u:=h.pg.n2;refine⟨λr b s m x d g i p=>h.hU b m d g i p,λx j a=>?_,λx j w a=>?_,λr b=>?_⟩
 ·obtain⟨r,b,d,g⟩:=(h.jX x).1 a;unfold sI;rw[B9];exact⟨r,b,by simp[d,g]⟩
 ·rcases h.sT x with e|e
  ·exact(a e).elim
  ·exact e
 ·have:=h.fit b;omega
theorem UN (hk:Cl A k c ss){ss':List cH}{j:Nat}{d:cA}{tt:List cH}(h:Cl {A with cG:=A.cG.set k ss'} j d tt):(j=k/\d=c/\tt=ss')\/(j≠k/\Cl A j d tt):=by
 obtain⟨b,a⟩:=h;by_cases hjk:j=k
 ·subst hjk;have g:=(cY.1 hk.2).1;simp only[zO g]at a;exact .inl ⟨rfl,Option.some.inj (b.symm.trans hk.1),(Option.some.inj a).symm⟩
 ·simp only[zh (Ne.symm hjk)]at a;exact .inr ⟨hjk,b,a⟩
theorem Hv (hk:Cl A k c ss)(ss':List cH):Cl {A with cG:=A.cG.set k ss'} k c ss':=⟨hk.1,zO (cY.1 hk.2).1⟩
theorem NS {ss':List cH}{j:Nat}{d:cA}{tt:List cH}(hjk:j≠k)(h:Cl A j d tt):Cl {A with cG:=A.cG.set k ss'} j d tt:=⟨h.1,(zh (Ne.symm hjk)).trans h.2⟩
theorem GA.lb (h:GA A)(hk:Cl A k c ss){ss':List cH}(hC:dI c ss')(hst:ss'.map (·.st)=ss.map (·.st))(ht:∀t,A.cR[k]?=some t->∀x∈t.bs.flatten,Tk c ss' x):GA {A with cG:=A.cG.set k ss'}:=by
 refine⟨h.pg.same rfl rfl rfl rfl,h.tb,by simp[h.lc],h.lt,λj d b a=>?_,λj d b a s i=>?_,λj d b a p=>?_,h.jX,h.sT,h.ia,h.kE,h.qC,λj d b t a g=>?_,h.pS⟩
 ·rcases UN hk a with⟨rfl,rfl,rfl⟩|⟨hne,a⟩
  ·exact hC
  ·exact h.cG j d b a
 ·rcases UN hk a with⟨rfl,rfl,rfl⟩|⟨hne,a⟩
  ·have:s.st∈ss.map (·.st):=by rw[←hst];exact zE.2 ⟨s,i,rfl⟩
   obtain⟨t,ht,e⟩:=zE.1 this;rw[←e];exact h.one _ _ _ hk t ht
  ·exact h.one j d b a s i
 ·rcases UN hk a with⟨rfl,rfl,rfl⟩|⟨hne,a⟩
  ·rw[MC hst];exact h.ow _ _ _ hk p
  ·exact h.ow j d b a p
 ·rcases UN hk a with⟨rfl,rfl,rfl⟩|⟨hne,a⟩
  ·exact ht t g
  ·exact h.mu j d b t a g
theorem Aj (hk:Cl A k c ss){ss':List cH}{j:Nat}{x:Int}:fS {A with cG:=A.cG.set k ss'} j x↔(j=k/\Tk c ss' x)\/(j≠k/\fS A j x):=by
 constructor
 ·rintro⟨d,tt,hj,hx⟩;rcases UN hk hj with⟨rfl,rfl,rfl⟩|⟨hne,hj⟩
  ·exact .inl ⟨rfl,hx⟩
  ·exact .inr ⟨hne,d,tt,hj,hx⟩
 ·rintro(⟨rfl,hx⟩|⟨hne,d,tt,hj,hx⟩)
  ·exact⟨c,ss',Hv hk ss',hx⟩
  ·exact⟨d,tt,NS hne hj,hx⟩
theorem VM (hk:Cl A k c ss){x:Int}:fS A k x↔Tk c ss x:=by
 constructor
 ·rintro⟨d,tt,hj,hx⟩;obtain⟨rfl,rfl⟩:=hk.eq hj;exact hx
 ·intro hx;exact⟨c,ss,hk,hx⟩
def swp (A:AR)(k:Nat)(c:cA)(ss:List cH):AR:=UJ {A with cG:=A.cG.set k (cK ss)} ((QX ss).map λs=>(s,c.aG))
theorem Cp {p:Nat}:m4 ((QX ss).map λs=>(s,c.aG)) p↔∃x∈QX ss,x<=p/\p<x+c.aG:=by
 unfold m4;simp only[zE];constructor
 ·rintro⟨_,⟨x,hx,rfl⟩,h⟩;exact⟨x,hx,h⟩
 ·rintro⟨x,hx,h⟩;exact⟨_,⟨x,hx,rfl⟩,h⟩
theorem GA.kb (h:GA A)(hk:Cl A k c ss){x:Nat}(hx:x∈QX ss){p:Nat}(h1:x<=p)(h2:p<x+c.aG):A.f p=1/\A.ow p=k+1:=by
 obtain⟨s,a,_,rfl⟩:=DV.1 hx;exact h.used hk a h1 h2
theorem GA.q9 (h:GA A)(hk:Cl A k c ss):tv {A with cG:=A.cG.set k (cK ss)} (swp A k c ss) ((QX ss).map λs=>(s,c.aG)):=by
 have i:=h.cG k c ss hk;refine FA _ (h.pg.same rfl rfl rfl rfl) (λr d=>?_) (λr d p u m=>?_) ?_
 ·obtain⟨x,_,rfl⟩:=zE.1 d;exact i.pg
 ·obtain⟨x,j,rfl⟩:=zE.1 d;exact(h.kb hk j u m).1
 ·rw[sR];exact(TZ i).imp λ{a b} g=>.inl g
theorem GA.swp (h:GA A)(hk:Cl A k c ss):GA (Go.Ar.swp A k c ss):=by
 have b:=h.q9 hk;have w:=h.cG k c ss hk;have B:=hk.lt;have E:=h.tb;have cl:∀{j d m},Cl (Go.Ar.swp A k c ss) j d m->(j=k/\d=c/\m=cK ss)\/(j≠k/\Cl A j d m):=λ{j d m} a=>UN hk ⟨by rw[←b.tb];exact a.1,by rw[←b.cG];exact a.2⟩;have own:∀p,m4 ((QX ss).map λs=>(s,c.aG)) p->A.ow p=k+1:=λp g=>by
  obtain⟨x,r,D,z⟩:=Cp.1 g;exact(h.kb hk r D z).2
 have cR:(Go.Ar.swp A k c ss).cR=A.cR:=b.cR;have tb:(Go.Ar.swp A k c ss).tb=A.tb:=b.tb;have runs:(Go.Ar.swp A k c ss).runs=A.runs:=b.runs;refine⟨b.pg,by rw[tb];exact h.tb,by rw[b.cG,tb];simp[h.lc],by rw[cR,tb];exact h.lt,λj d m a=>?_,λj d m a s y=>?_,λj d m a p=>?_,λp=>?_,λp=>?_,by rw[runs];exact h.ia,by rw[runs];exact h.kE,by rw[cR];exact h.qC,λj d m t a u=>?_,by rw[cR,tb];exact h.pS⟩
 ·rcases cl a with⟨rfl,rfl,rfl⟩|⟨hne,a⟩
  ·exact w.cK
  ·exact h.cG j d m a
 ·rcases cl a with⟨rfl,rfl,rfl⟩|⟨hne,a⟩
  ·exact h.one _ _ _ hk s (zL.1 y).1
  ·exact h.one j d m a s y
 ·by_cases g:m4 ((QX ss).map λs=>(s,c.aG)) p
  ·rw[(b.i p g).2];have C:=own p g;rcases cl a with⟨rfl,rfl,rfl⟩|⟨hne,a⟩
   ·rw[JI w];constructor
    ·intro e;omega
    ·rintro⟨_,hn⟩;exact(hn (Cp.1 g)).elim
   ·rw[←h.ow j d m a p,C];omega
  ·rw[(b.o p g).2];rcases cl a with⟨rfl,rfl,rfl⟩|⟨hne,a⟩
   ·rw[JI w];show A.ow p=_↔_;rw[h.ow _ _ _ hk p];exact⟨λr=>⟨r,λF=>g (Cp.2 F)⟩,λr=>r.1⟩
   ·exact h.ow j d m a p
 ·rw[runs];by_cases g:m4 ((QX ss).map λs=>(s,c.aG)) p
  ·rw[(b.i p g).2,←h.jX,own p g];omega
  ·rw[(b.o p g).2];exact h.jX p
 ·rw[tb];by_cases g:m4 ((QX ss).map λs=>(s,c.aG)) p
  ·rw[(b.i p g).2];omega
  ·rw[(b.o p g).2];exact h.sT p
 ·rw[cR]at u;rcases cl a with⟨rfl,rfl,rfl⟩|⟨hne,a⟩
  ·intro x r;exact(FJ w).2 (h.mu _ _ _ t hk u x r)
  ·exact h.mu j d m t a u
theorem GA.BY (h:GA A)(hk:Cl A k c ss):Kp A (Go.Ar.swp A k c ss):=by
 have b:=h.q9 hk;refine⟨b.n,b.tb,b.room,b.z,λp a=>?_⟩;by_cases hi:m4 ((QX ss).map λs=>(s,c.aG)) p
 ·rw[(b.i p hi).1]at a;omega
 ·rw[(b.o p hi).1]at a;exact a
theorem GA.Dx (h:GA A)(hk:Cl A k c ss){j:Nat}{x:Int}:fS (Go.Ar.swp A k c ss) j x↔fS A j x:=by
 have b:=h.q9 hk;have a:=h.cG k c ss hk;have e:fS (Go.Ar.swp A k c ss) j x↔fS {A with cG:=A.cG.set k (cK ss)} j x:=by unfold fS Cl;rw[b.tb,b.cG]
 rw[e,Aj hk,FJ a];constructor
 ·rintro(⟨rfl,hx⟩|⟨_,hx⟩)
  ·exact(VM hk).2 hx
  ·exact hx
 ·intro hx;by_cases hjk:j=k
  ·subst hjk;exact .inl ⟨rfl,(VM hk).1 hx⟩
  ·exact .inr ⟨hjk,hx⟩
theorem H6 {k:Int}:A.ck k=true↔∃j:Nat,k=j/\j<A.tb.length:=by
 unfold AR.ck;simp only[zF,zV];constructor
 ·intro h;exact⟨k.toNat,O,O⟩
 ·rintro⟨j,rfl,h⟩;omega
structure Ob (A B:AR):Prop where
 ga:GA B
 kp:Kp A B
 runs:B.runs=A.runs
theorem EB (h:GA A)(k m:Int):Ob A (YT A k m)/\(YT A k m).cR=A.cR/\(YA A k m).Nodup/\(YA A k m≠[]->∃j:Nat,k=j/\j<A.tb.length)/\(∀x∈YA A k m,¬fS A k.toNat (x:Int)) ∧
 ∀j y,fS (YT A k m) j y↔fS A j y\/(j=k.toNat/\∃x∈YA A k m,y=((x:Nat):Int)):=by
 by_cases h0:Kb A k m=0
 ·have p:A.ck k=true:=by
   unfold Kb at h0;split at h0
   ·assumption
   ·cases h0
  obtain⟨j,rfl,u⟩:=H6.1 p;obtain⟨c,ss,t,b,D⟩:=h.cl u;have w:V0 A (j:Int) m=KF c m.toNat ss:=by unfold V0;rw[dF,b.1,b.2]
  have d:YT A (j:Int) m = {A with cG:=A.cG.set j (KF c m.toNat ss).2}:=by unfold YT;rw[zC h0,w,dF]
  have r:YA A (j:Int) m=(KF c m.toNat ss).1:=by unfold YA;rw[zC h0,w]
  rw[d,r];obtain⟨s1,s2,E,C,B,s⟩:=Gz m.toNat (h.cG j c ss b);refine⟨⟨h.lb b s1 s2 λz g x a=>(s x).2 (.inr (h.mu j c ss z b g x a)),Kp.aG rfl rfl rfl rfl,rfl⟩,rfl,C,λ_=>⟨j,rfl,u⟩,λx a=>?_,λi y=>?_⟩
  ·rw[dF,VM b];exact B x a
  ·rw[Aj b,s,dF];by_cases hij:i=j
   ·subst hij;rw[VM b];constructor
    ·rintro(⟨_,a|a⟩|⟨a,_⟩)
     ·exact .inr ⟨rfl,a⟩
     ·exact .inl a
     ·exact(a rfl).elim
    ·rintro(a|⟨_,a⟩)
     ·exact .inl ⟨rfl,.inr a⟩
     ·exact .inl ⟨rfl,.inl a⟩
   ·constructor
    ·rintro(⟨a,_⟩|⟨_,a⟩)
     ·exact(hij a).elim
     ·exact .inl a
    ·rintro(a|⟨a,_⟩)
     ·exact .inr ⟨hij,a⟩
     ·exact(hij a).elim
 ·have d:YT A k m=A:=by unfold YT;rw[zB h0]
  have r:YA A k m=[]:=by unfold YA;rw[zB h0]
  rw[d,r];exact⟨⟨h,Kp.refl A,rfl⟩,rfl,uD,by simp,by simp,by simp⟩
theorem F2 {xs:List Int}(h:kC c ss xs):iL c ss xs=0:=by
 unfold iL;have b:xs.any (λx=>(eI c ss x).isNone)=false:=by
  rw[mB];intro x hx;rw[h.1 x hx];simp
 have a:xs.any (λx=>eI c ss x==some false)=false:=by
  rw[mB];intro x hx;rw[h.1 x hx];simp
 rw[b,a,zI h.2];rfl
theorem GB (h:GA A)(hk:Cl A k c ss)(xs:List Int):Kv A (k:Int) xs=iL c ss xs:=by
 unfold Kv;rw[H6.2 ⟨k,rfl,hk.lt⟩,zC rfl,dF,hk.1,hk.2]
theorem CG (h:GA A){k:Int}{xs:List Int}(h0:Kv A k xs=0):∃(j:Nat) (c:cA) (ss:List cH),k=j/\Cl A j c ss/\kC c ss xs:=by
 have a:A.ck k=true:=by
  unfold Kv at h0;split at h0
  ·assumption
  ·cases h0
 obtain⟨j,rfl,d⟩:=H6.1 a;obtain⟨c,ss,t,b,g⟩:=h.cl d;rw[GB h b]at h0;exact⟨j,c,ss,rfl,b,F6 h0⟩
theorem B0 (h:GA A){k:Int}{xs:List Int}(hd:Kv A k xs=0->∀x∈xs,¬ie A k.toNat x):Ob A (ZY A k xs)/\(ZY A k xs).cR=A.cR ∧
 (Kv A k xs=0->∀j y,fS (ZY A k xs) j y↔fS A j y/\¬(j=k.toNat/\y∈xs))/\(Kv A k xs≠0->ZY A k xs=A):=by
 by_cases h0:Kv A k xs=0
 ·obtain⟨j,c,m,rfl,g,D⟩:=CG h h0;obtain⟨E,B,u⟩:=ID xs (h.cG j c m g) D;have r:=h.lb g E B λt w x a=>(u x).2 ⟨h.mu j c m t g w x a,λC=>hd h0 x C ⟨t,by rw[dF];exact w,a⟩⟩;have d:=Hv g (xs.foldl (fL c) m);have s:ZY A (j:Int) xs=swp {A with cG:=A.cG.set j (xs.foldl (fL c) m)} j c (xs.foldl (fL c) m):=by
   unfold ZY swp;rw[zC h0,dF,g.1,g.2];simp only[nC]
  have b:=r.q9 d;rw[s];refine⟨⟨r.swp d,(Kp.aG rfl rfl rfl rfl:Kp A {A with cG:=A.cG.set j (xs.foldl (fL c) m)}).trans (r.BY d),b.runs⟩,b.cR,λ_ i y=>?_,λz=>(z h0).elim⟩;rw[r.Dx d,Aj g,u,dF];by_cases hij:i=j
  ·subst hij;rw[VM g];constructor
   ·rintro(⟨_,a,hy⟩|⟨a,_⟩)
    ·exact⟨a,λp=>hy p.2⟩
    ·exact(a rfl).elim
   ·rintro⟨a,hy⟩;exact .inl ⟨rfl,a,λp=>hy ⟨rfl,p⟩⟩
  ·constructor
   ·rintro(⟨a,_⟩|⟨_,a⟩)
    ·exact(hij a).elim
    ·exact⟨a,λp=>hij p.1⟩
   ·rintro⟨a,_⟩;exact .inr ⟨hij,a⟩
 ·have s:ZY A k xs=A:=by unfold ZY;rw[zB h0]
  rw[s];exact⟨⟨h,Kp.refl A,rfl⟩,rfl,λa=>(h0 a).elim,λ_=>rfl⟩
theorem GA.kf (h:GA A){k:Nat}{t':gT}(h1:t'.bs.flatten.Nodup)(h2:∀x∈t'.bs.flatten,fS A k x)(h3:∀c,A.tb[k]?=some c->∀xs∈t'.bs,xs.length=c.batch):GA {A with cR:=A.cR.set k t'}:=by
 have get:∀{j t},(A.cR.set k t')[j]?=some t->(j=k/\t=t')\/(j≠k/\A.cR[j]?=some t):=by
  intro j t a;by_cases hjk:j=k
  ·subst hjk;have i:j<A.cR.length:=by have:=(cY.1 a).1;simpa using this
   rw[zO i]at a;exact .inl ⟨rfl,(Option.some.inj a).symm⟩
  ·rw[zh (Ne.symm hjk)]at a;exact .inr ⟨hjk,a⟩
 refine⟨h.pg.same rfl rfl rfl rfl,h.tb,h.lc,by simp[h.lt],h.cG,h.one,h.ow,h.jX,h.sT,h.ia,h.kE,λj t a=>?_,λj c g t b a x d=>?_,λj c t b a=>?_⟩
 ·rcases get a with⟨rfl,rfl⟩|⟨_,a⟩
  ·exact h1
  ·exact h.qC j t a
 ·rcases get a with⟨rfl,rfl⟩|⟨_,a⟩
  ·exact(VM b).1 (h2 x d)
  ·exact h.mu j c g t b a x d
 ·rcases get a with⟨rfl,rfl⟩|⟨_,a⟩
  ·exact h3 c b
  ·exact h.pS j c t b a
theorem y6 {t':gT}{j:Nat}{x:Int}(hk:k<A.cR.length):ie {A with cR:=A.cR.set k t'} j x↔(j=k/\x∈t'.bs.flatten)\/(j≠k/\ie A j x):=by
 by_cases hjk:j=k
 ·subst hjk;have a:(A.cR.set j t')[j]?=some t':=zO hk;constructor
  ·rintro⟨t,e,hx⟩;have e:(A.cR.set j t')[j]?=some t:=e;rw[a]at e;cases e;exact .inl ⟨rfl,hx⟩
  ·rintro(⟨_,hx⟩|⟨hx,_⟩)
   ·exact⟨_,a,hx⟩
   ·exact(hx rfl).elim
 ·have a:(A.cR.set k t')[j]?=A.cR[j]? := zh (Ne.symm hjk);constructor
  ·rintro⟨t,e,hx⟩;have e:(A.cR.set k t')[j]?=some t:=e;rw[a]at e;exact .inr ⟨hjk,t,e,hx⟩
  ·rintro(⟨hx,_⟩|⟨_,t,e,hx⟩)
   ·exact(hjk hx).elim
   ·exact⟨t,a.trans e,hx⟩
theorem GK {t:gT}(ht:A.cR[k]?=some t){x:Int}:ie A k x↔x∈t.bs.flatten:=by
 constructor
 ·rintro⟨t',e,hx⟩;rw[ht]at e;cases e;exact hx
 ·intro hx;exact⟨t,ht,hx⟩
theorem LG (h:GA A)(k:Int):Ob A (Z1 A k)/\(∀j y,fS (Z1 A k) j y↔fS A j y)/\(∀x∈YQ A k,ie A k.toNat x)/\(YQ A k).Nodup/\(YQ A k≠[]->∃j:Nat,k=j/\j<A.tb.length) ∧
 ∀j y,ie (Z1 A k) j y↔ie A j y/\¬(j=k.toNat/\y∈YQ A k):=by
 by_cases h0:QE A k=0
 ·have r:A.ck k=true:=by
   unfold QE at h0;split at h0
   ·assumption
   ·cases h0
  obtain⟨j,rfl,w⟩:=H6.1 r;obtain⟨c,H,t,E,m⟩:=h.cl w;have hne:t.bs≠[]:=by
   intro e;unfold QE at h0;rw[r,zC rfl,dF,m]at h0;simp[e]at h0
  have u:Z1 A (j:Int) = {A with cR:=A.cR.set j t.rem}:=by unfold Z1;rw[zC h0,dF,VE m]
  have C:YQ A (j:Int)=t.bs.getLast?.getD []:=by unfold YQ;rw[zC h0,dF,m]
  have z:t.bs=t.bs.dropLast++[t.bs.getLast hne]:=(List.dropLast_concat_getLast hne).symm;have F:YQ A (j:Int)=t.bs.getLast hne:=by rw[C,List.getLast?_eq_some_getLast hne];rfl
  have d:t.bs.flatten=t.bs.dropLast.flatten++t.bs.getLast hne:=by
   conv=>lhs;rw[z]
   simp
  have p:=h.qC j t m;rw[d]at p;have b:=nk.1 p;have g:t.rem.bs=t.bs.dropLast:=rfl;rw[u,F];refine⟨⟨h.kf (by rw[g];exact b.1) (λx a=>(VM E).2 (h.mu j c H t E m x (by rw[d];exact kP _ a))) λG B J D=>h.pS j G t B m J ((List.dropLast_sublist _).subset D),Kp.aG rfl rfl rfl rfl,rfl⟩,λ_ _=>Iff.rfl,λx a=>?_,b.2.1,λ_=>⟨j,rfl,w⟩,λi y=>?_⟩
  ·rw[dF,GK m,d];exact oh _ a
  ·rw[y6 (by rw[h.lt];exact w),g,dF];by_cases hij:i=j
   ·subst hij;rw[GK m,d,zM];constructor
    ·rintro(⟨_,a⟩|⟨a,_⟩)
     ·exact⟨.inl a,λs=>b.2.2 y a y s.2 rfl⟩
     ·exact(a rfl).elim
    ·rintro⟨a|a,s⟩
     ·exact .inl ⟨rfl,a⟩
     ·exact(s ⟨rfl,a⟩).elim
   ·constructor
    ·rintro(⟨a,_⟩|⟨_,a⟩)
     ·exact(hij a).elim
     ·exact⟨a,λs=>hij s.1⟩
    ·rintro⟨a,_⟩;exact .inr ⟨hij,a⟩
 ·have u:Z1 A k=A:=by unfold Z1;rw[zB h0]
  have C:YQ A k=[]:=by unfold YQ;rw[zB h0]
  rw[u,C];exact⟨⟨h,Kp.refl A,rfl⟩,λ_ _=>Iff.rfl,by simp,uD,by simp,by simp⟩
theorem WmB (h:GA A)(k:Int){xs:List Int}(hn:xs.Nodup)(hd:∀x∈xs,¬ie A k.toNat x):Ob A (KH A k xs)/\(∀j y,fS (KH A k xs) j y↔fS A j y) ∧
 (VN A k xs=true->(∃j:Nat,k=j/\j<A.tb.length)/\(∀x∈xs,fS A k.toNat x)/\∀j y,ie (KH A k xs) j y↔ie A j y\/(j=k.toNat/\y∈xs))/\(VN A k xs=false->KH A k xs=A):=by
 by_cases h0:VN A k xs=true
 ·have B:HE A k xs=0:=by
   unfold VN at h0;simp only[zF,zV]at h0;exact h0.1
  have z:A.ck k=true:=by
   unfold HE at B;split at B
   ·assumption
   ·cases B
  obtain⟨j,rfl,E⟩:=H6.1 z;obtain⟨c,H,t,s,u⟩:=h.cl E;have g:=B;unfold HE at g;rw[z,zC rfl,dF,s.1,s.2]at g;simp only at g;have p:xs.length=c.batch:=by
   apply Classical.byContradiction;intro d;rw[zB d]at g;cases g
  rw[zC p]at g;have w:∀x∈xs,fS A j x:=by
   intro x d;split at g
   ·rename_i C;rw[kz]at C;rw[VM s];simpa[Tk]using C x d
   ·cases g
  have D:KH A (j:Int) xs = {A with cR:=A.cR.set j {t with bs:=t.bs++[xs]}}:=by unfold KH;rw[zC h0,dF,VE u]
  have r:(t.bs++[xs]).flatten=t.bs.flatten++xs:=by simp
  rw[D];refine⟨⟨h.kf ?_ ?_ ?_,Kp.aG rfl rfl rfl rfl,rfl⟩,λ_ _=>Iff.rfl,λ_=>⟨⟨j,rfl,E⟩,by rw[dF];exact w,λi y=>?_⟩,λF=>by rw[F]at h0;cases h0⟩
  ·show(t.bs++[xs]).flatten.Nodup;rw[r,nk];exact⟨h.qC j t u,hn,λa C b G e=>hd b G (by subst e;rw[dF,GK u];exact C)⟩
  ·intro x d;have d:x∈(t.bs++[xs]).flatten:=d;rw[r,zM]at d;rcases d with d|d
   ·exact(VM s).2 (h.mu j c H t s u x d)
   ·exact w x d
  ·intro c' hc' ys m;have m:ys∈t.bs++[xs]:=m;rcases zM.1 m with m|m
   ·exact h.pS j c' t hc' u ys m
   ·simp only[zN]at m;rw[s.1]at hc';cases hc';rw[m];exact p
  ·rw[y6 (by rw[h.lt];exact E),dF];show(i=j/\y∈(t.bs++[xs]).flatten)\/_↔_;rw[r,zM];by_cases hij:i=j
   ·subst hij;rw[GK u];constructor
    ·rintro(⟨_,d|d⟩|⟨d,_⟩)
     ·exact .inl d
     ·exact .inr ⟨rfl,d⟩
     ·exact(d rfl).elim
    ·rintro(d|⟨_,d⟩)
     ·exact .inl ⟨rfl,.inl d⟩
     ·exact .inl ⟨rfl,.inr d⟩
   ·constructor
    ·rintro(⟨d,_⟩|⟨_,d⟩)
     ·exact(hij d).elim
     ·exact .inl d
    ·rintro(d|⟨d,_⟩)
     ·exact .inr ⟨hij,d⟩
     ·exact(hij d).elim
 ·have D:KH A k xs=A:=by unfold KH;rw[zB h0]
  rw[D];exact⟨⟨h,Kp.refl A,rfl⟩,λ_ _=>Iff.rfl,λd=>(h0 d).elim,λ_=>rfl⟩
end Go.Ar
namespace Go.Ar
open Go.Bu (ZE Kj ZB qy VP dH take KP Vm Bounded full can YU U5 Z0 Kl Z9 W7 Kn QJ Ur Hq k9)
variable {A:AR}{sp:Sp}{k:Nat}{c:cA}{ss:List cH}
structure Ow (A:AR) (sp:Sp):Prop where
 l:sp.st.length=A.n
 own:∀p,A.f p≠0->gf sp.st p≠0
 cl:∀p,A.f p=3->gf sp.st p=1
 le:∀p,gf sp.st p<=2
structure St (A B:AR) (sp sp':Sp):Prop where
 ga:GA B
 ow:Ow B sp'
 n:B.n=A.n
 tb:B.tb=A.tb
 room:B.room=A.room
 same:∀p,A.f p=0->B.f p=0->gf sp'.st p=gf sp.st p
 gone:∀p,A.f p≠0->B.f p=0->gf sp'.st p=0
 new:∀p,A.f p=0->B.f p≠0->gf sp.st p=0/\16<=p
theorem St.refl (h:GA A)(hw:Ow A sp):St A A sp sp:=⟨h,hw,rfl,rfl,rfl,λ_ _ _=>rfl,λp b a=>(b a).elim,λp b a=>(a b).elim⟩
theorem Ow.len {B C:AR}{sp sp':Sp}(h:Ow B sp)(k:Ow C sp')(e:C.n=B.n):sp'.st.length=sp.st.length:=by rw[h.l,k.l,e]
theorem St.trans {B C:AR}{sp' sp'':Sp}(h:St A B sp sp')(k:St B C sp' sp''):St A C sp sp'':=by
 refine⟨k.ga,k.ow,k.n.trans h.n,k.tb.trans h.tb,k.room.trans h.room,λp b a=>?_,λp b a=>?_,λp b a=>?_⟩
 ·by_cases hB:B.f p=0
  ·rw[k.same p hB a,h.same p b hB]
  ·rw[k.gone p hB a,(h.new p b hB).1]
 ·by_cases hB:B.f p=0
  ·rw[k.same p hB a,h.gone p b hB]
  ·exact k.gone p hB a
 ·by_cases hB:B.f p=0
  ·have:=k.new p hB a;rw[h.same p b hB]at this;exact this
  ·exact h.new p b hB
theorem Ow.kp {B:AR}(hw:Ow A sp)(h:Kp A B):Ow B sp:=⟨hw.l.trans h.n.symm,λp a=>hw.own p λe=>a ((h.z p).2 e),λp a=>hw.cl p (h.t p a),hw.le⟩
theorem St.kp {B:AR}(hg:GA B)(hw:Ow A sp)(h:Kp A B):St A B sp sp:=
 ⟨hg,hw.kp h,h.n,h.tb,h.room,λ_ _ _=>rfl,λp b a=>(b ((h.z p).1 a)).elim,λp b a=>(a ((h.z p).2 b)).elim⟩
theorem Ob.st {B:AR}(o:Ob A B)(hw:Ow A sp):St A B sp sp:=St.kp o.ga hw o.kp
theorem GA.grown (h:GA A){B:AR}{sp':Sp}{s size:Nat}(g:Grown A B sp sp' s size):GA B:=by
 have e:∀{j d tt},Cl B j d tt↔Cl A j d tt:=λ{j d tt}=>by unfold Cl;rw[g.tb,g.cG]
 exact⟨g.pg,by rw[g.tb];exact h.tb,by rw[g.cG,g.tb];exact h.lc,by rw[g.cR,g.tb];exact h.lt,λj d tt a=>h.cG j d tt (e.1 a),λj d tt a=>h.one j d tt (e.1 a),λj d tt a p=>by rw[g.ow];exact h.ow j d tt (e.1 a) p,
  λp=>by rw[g.ow,g.runs];exact h.jX p,λp=>by rw[g.ow,g.tb];exact h.sT p,by rw[g.runs];exact h.ia,by rw[g.runs];exact h.kE,by rw[g.cR];exact h.qC,λj d tt t a b=>h.mu j d tt t (e.1 a) (by rw[←g.cR];exact b),by rw[g.tb,g.cR];exact h.pS⟩
theorem Grown.st (h:GA A)(hw:Ow A sp){B:AR}{sp':Sp}{s size:Nat}(g:Grown A B sp sp' s size):St A B sp sp':=by
 have b:∀p,B.f p≠A.f p->s<=p/\p<s+size:=λp a=>by
  apply Classical.byContradiction;intro hn;exact a (g.o p hn).1
 refine⟨h.grown g,⟨g.l.trans (hw.l.trans g.n.symm),λp a=>?_,λp a=>?_,λp=>?_⟩,g.n,g.tb,g.room,λp j d=>?_,λp j d=>?_,λp j d=>?_⟩
 ·by_cases hi:s<=p/\p<s+size
  ·rw[(g.i p hi.1 hi.2).2];omega
  ·rw[(g.o p hi).2];rw[(g.o p hi).1]at a;exact hw.own p a
 ·by_cases hi:s<=p/\p<s+size
  ·rw[(g.i p hi.1 hi.2).2]
  ·rw[(g.o p hi).2];rw[(g.o p hi).1]at a;exact hw.cl p a
 ·by_cases hi:s<=p/\p<s+size
  ·rw[(g.i p hi.1 hi.2).2];omega
  ·rw[(g.o p hi).2];exact hw.le p
 ·refine(g.o p λhi=>?_).2;rw[(g.i p hi.1 hi.2).1]at d;omega
 ·have:=b p O;rw[(g.i p this.1 this.2).1]at d;omega
 ·have:=b p O;exact⟨g.un p this.1 this.2,by have:=g.s1;omega⟩
theorem LX {n:Nat}{S:Nat->Bool}(hb:Bounded S n)(hn:n<=1024){j q m a:Nat}(hf:full S j q=true)(hm:m<=2^j)(ha:a<=2^j):ZB n S m a≠none:=by
 intro h0;have r:S (q*2^j)=true:=YU.1 hf _ (BV _ (k5 j));obtain⟨i,hi⟩:=U5 hb r;have g:j<=i:=by
  apply Classical.byContradiction;intro hlt;exact Kl hi hf rfl (BV _ (k5 j)) O
 have s:=Z9 hb (Z0.1 hi).1;have d:i<11:=by
  apply Classical.byContradiction;intro hge;have:2^11<=2^i:=oK O O;omega
 have p:2^j<=2^i:=oK O g;have:=Hq h0 i d O O;have b:=(Kn hb (k:=i)).2 ⟨_,rfl,hi⟩;rw[this]at b;simp at b
theorem Dq (m:Nat):KD m=16\/KD m=32\/KD m=64:=by
 unfold KD;split
 ·exact .inl rfl
 ·split
  ·exact .inr (.inl rfl)
  ·exact .inr (.inr rfl)
theorem NT {m:Nat}(h:m<=64):m<=KD m:=by
 unfold KD;split
 ·omega
 ·split<;>omega
theorem I7 (h:GA A)(hw:Ow A sp){m a no:Nat}(h1:1<=m)(h2:m<=64)(ha:1<=a/\a<=16) :
 (dC A sp m a no=(none,A,sp)/\ZB A.n A.S m a=none/\dB sp (KD (max m a))=none) ∨
 ∃x A1 sp1,dC A sp m a no=(some x,dT A1 x m no,sp1)/\ZB A1.n A1.S m a=some x/\(A1=A/\sp1=sp\/ZB A.n A.S m a=none/\∃s,dB sp (KD (max m a))=some s/\Grown A A1 sp sp1 s (KD (max m a))):=by
 cases ht:ZB A.n A.S m a with
 | some x=>exact .inr ⟨x,A,sp,by unfold dC;rw[ht],ht,.inl ⟨rfl,rfl⟩⟩
 | none=>
  cases hg:Hk A sp (KD (max m a))with
  | none=>
   refine .inl ⟨by unfold dC;rw[ht,hg],rfl,?_⟩;unfold Hk at hg;split at hg
   ·assumption
   ·cases hg
  | some r=>
   obtain⟨A1,sp1⟩:=r;obtain⟨s,w,g⟩:=Tu h.pg hw.l (λp b=>Classical.byContradiction λB=>hw.own p B b) (Dq _) hg;have d:ZB A1.n A1.S m a≠none:=by
    have y:=NT (m:=max m a) O;obtain⟨_,_,⟨i,hi⟩,_⟩:=Hm (by have:=Dq (max m a);omega) w;have key:∃j,KD (max m a)=2^j:=by
     rcases Dq (max m a)with e|e|e
     ·exact⟨4,e⟩
     ·exact⟨5,e⟩
     ·exact⟨6,e⟩
    obtain⟨j,z⟩:=key;refine LX g.pg.jJ g.pg.n2 (j:=j) (q:=i) (YU.2 λp b=>?_) O O;rw[g.pg.fr];rw[QJ,←z,←hi]at b;rw[(g.i p b.1 b.2).1];omega
   obtain⟨x,u⟩:=Option.ne_none_iff_exists'.1 d;exact .inr ⟨x,A1,sp1,by unfold dC;rw[ht,hg];simp only;rw[u],u,.inr ⟨rfl,s,w,g⟩⟩
theorem IH (h:PG A){m a x:Nat}(hx:ZB A.n A.S m a=some x):∀p,x<=p->p<x+m->A.S p=true:=λp d b=>(k9 h.jJ hx).2 p d b
theorem PV (h:PG A){m a x:Nat}(h1:1<=m)(h4:m<=4)(hx:ZB A.n A.S m a=some x):x/16=(x+m-1)/16:=by
 obtain⟨j,_,b,_,d,_⟩:=Ur hx;obtain⟨q,rfl,g⟩:=(Kn h.jJ).1 (List.mem_of_head? d)
 match j,b with
 | 0,b=>
  have:m=1:=by omega
  subst this;rfl
 | 1,b=>
  have:m<=2:=by omega
  simp only[Nat.pow_one]at *;omega
 | j+2,b=>
  have e:2^(j+2)=4*2^j:=by rw[Nat.pow_add];omega
  rw[e,←yu,Nat.mul_comm q 4,yu];generalize q*2^j=z;omega
theorem IX (h:PG A){a m no:Nat}(h1:1<=m)(hn:no≠0)(hS:∀p,a<=p->p<a+m->A.S p=true):Kp A (dT A a m no):=by
 obtain⟨o,hi,d,g⟩:=BX h h1 hn hS;refine⟨rfl,rfl,rfl,g,λp b=>?_⟩;by_cases hin:a<=p/\p<a+m
 ·rw[(hi p hin.1 hin.2).1]at b;omega
 ·rw[o.f p hin]at b;exact b
theorem GA.rX (h:GA A)(hk:Cl A k c ss){x:Nat}(hS:∀p,x<=p->p<x+c.aG->A.S p=true)(h1:x/16=(x+c.aG-1)/16) :
 GA {dT A x c.aG (k+1)with cG:=(dT A x c.aG (k+1)).cG.set k (iu c ss x)}/\(∀s∈ss,s.st+c.aG<=x\/x+c.aG<=s.st):=by
 have m:=h.cG k c ss hk;have u:=m.pg;have C:=hk.lt;have E:=h.tb;obtain⟨o,hi,pg,F⟩:=BX h.pg u (no:=k+1) O hS;have r:∀p,x<=p->p<x+c.aG->A.ow p=0:=λp B D=>by
  have z:=(h.pg.fr p).1 (hS p B D);apply Classical.byContradiction;intro hne;have:=(h.pg.us p).2 hne;omega
 have hd:∀s∈ss,s.st+c.aG<=x\/x+c.aG<=s.st:=λs b=>by
  apply Classical.byContradiction;intro hn;have z:=r (max x s.st) O O;have:=(h.used hk b (p:=max x s.st) O O).2;omega
 refine⟨?_,hd⟩;have g:Cl (dT A x c.aG (k+1)) k c ss:=hk;refine⟨pg.same rfl rfl rfl rfl,h.tb,by show(A.cG.set k _).length=_;simp[h.lc];rfl,h.lt,λj d i a=>?_,λj d i a s b=>?_,λj d i a p=>?_,λp=>?_,λp=>?_,h.ia,h.kE,h.qC,λj d i t a w=>?_,h.pS⟩
 ·rcases UN g a with⟨rfl,rfl,rfl⟩|⟨hne,a⟩
  ·exact JB m hd
  ·exact h.cG j d i a
 ·rcases UN g a with⟨rfl,rfl,rfl⟩|⟨hne,a⟩
  ·rcases VV.1 b with rfl|b
   ·exact h1
   ·exact h.one _ _ _ hk s b
  ·exact h.one j d i a s b
 ·show(dT A x c.aG (k+1)).ow p=j+1↔_;by_cases hp:x<=p/\p<x+c.aG
  ·rw[(hi p hp.1 hp.2).2];rcases UN g a with⟨rfl,rfl,rfl⟩|⟨hne,a⟩
   ·exact⟨λ_=>⟨_,VV.2 (.inl rfl),hp.1,hp.2⟩,λ_=>rfl⟩
   ·rw[←h.ow j d i a p,r p hp.1 hp.2];omega
  ·rw[o.ow p hp];rcases UN g a with⟨rfl,rfl,rfl⟩|⟨hne,a⟩
   ·rw[h.ow _ _ _ hk p];constructor
    ·rintro⟨s,b,h3⟩;exact⟨s,VV.2 (.inr b),h3⟩
    ·rintro⟨s,b,h3⟩;rcases VV.1 b with rfl|b
     ·exact(hp h3).elim
     ·exact⟨s,b,h3⟩
   ·exact h.ow j d i a p
 ·show(dT A x c.aG (k+1)).ow p=41↔m4 A.runs p;by_cases hp:x<=p/\p<x+c.aG
  ·rw[(hi p hp.1 hp.2).2,←h.jX,r p hp.1 hp.2];omega
  ·rw[o.ow p hp];exact h.jX p
 ·show(dT A x c.aG (k+1)).ow p=41\/(dT A x c.aG (k+1)).ow p<=A.tb.length;by_cases hp:x<=p/\p<x+c.aG
  ·rw[(hi p hp.1 hp.2).2];omega
  ·rw[o.ow p hp];exact h.sT p
 ·rcases UN g a with⟨rfl,rfl,rfl⟩|⟨hne,a⟩
  ·intro y hy;exact(EF m hd).2 (h.mu _ _ _ t hk w y hy)
  ·exact h.mu j d i t a w
theorem GA.uQ (h:GA A){x m:Nat}(hm:1<=m)(hS:∀p,x<=p->p<x+m->A.S p=true):GA {dT A x m 41 with runs:=A.runs++[(x,m)]}:=by
 have y:=h.tb;obtain⟨o,hi,pg,B⟩:=BX h.pg hm (no:=41) O hS;have i:∀p,x<=p->p<x+m->A.ow p=0:=λp z u=>by
  have w:=(h.pg.fr p).1 (hS p z u);apply Classical.byContradiction;intro hne;have:=(h.pg.us p).2 hne;omega
 refine⟨pg.same rfl rfl rfl rfl,h.tb,h.lc,h.lt,h.cG,h.one,λj d tt b p=>?_,λp=>?_,λp=>?_,λr a=>?_,?_,h.qC,h.mu,h.pS⟩
 ·have b:Cl A j d tt:=b;have:=b.lt;show(dT A x m 41).ow p=j+1↔_;by_cases hp:x<=p/\p<x+m
  ·rw[(hi p hp.1 hp.2).2,←h.ow j d tt b p,i p hp.1 hp.2];omega
  ·rw[o.ow p hp];exact h.ow j d tt b p
 ·show(dT A x m 41).ow p=41↔m4 (A.runs++[(x,m)]) p;by_cases hp:x<=p/\p<x+m
  ·rw[(hi p hp.1 hp.2).2];exact⟨λ_=>⟨(x,m),by simp,hp⟩,λ_=>rfl⟩
  ·rw[o.ow p hp,h.jX];constructor
   ·rintro⟨r,a,h3⟩;exact⟨r,by simp[a],h3⟩
   ·rintro⟨r,a,h3⟩;rcases zM.1 a with a|a
    ·exact⟨r,a,h3⟩
    ·simp only[zN]at a;subst a;exact(hp h3).elim
 ·show(dT A x m 41).ow p=41\/(dT A x m 41).ow p<=A.tb.length;by_cases hp:x<=p/\p<x+m
  ·rw[(hi p hp.1 hp.2).2];omega
  ·rw[o.ow p hp];exact h.sT p
 ·rcases zM.1 a with a|a
  ·exact h.ia r a
  ·simp only[zN]at a;subst a;exact hm
 ·refine qP.2 ⟨h.kE,by simp,λr a s g=>?_⟩;simp only[zN]at g;subst g;apply Classical.byContradiction;intro hn;simp only at hn;have:=h.ia r a;have w:=i (max x r.1) O O;have:=(h.jE a (p:=max x r.1) O O).2;omega
theorem OG {l:List (Nat×Nat)}{x m:Nat}(h:∀r∈l,r.1≠x):cC.mset2 l x m=l++[(x,m)]:=by
 unfold cC.mset2;rw[zB];simp only[zy,zU,not_exists,not_and];exact h
theorem Io (h:GA A)(hw:Ow A sp)(k:Int) :
 ((cQ A sp k=(A,sp))/\Vw A sp k≠0/\(A.ck k=true->Vw A sp k=6)) ∨
 ∃(j:Nat) (c:cA) (ss:List cH) (x:Nat) (A1:AR) (sp1:Sp),k=j/\Cl A j c ss/\Cl A1 j c ss/\Vw A sp k=0/\cQ A sp k=({dT A1 x c.aG (j+1)with cG:=(dT A1 x c.aG (j+1)).cG.set j (iu c ss x)},sp1) ∧
  St A A1 sp sp1/\A1.runs=A.runs/\A1.cR=A.cR/\A1.cG=A.cG/\ZB A1.n A1.S c.aG 1=some x/\(∀s∈ss,s.st+c.aG<=x\/x+c.aG<=s.st)/\St A (cQ A sp k).1 sp (cQ A sp k).2:=by
 by_cases hck:A.ck k=true
 ·obtain⟨j,rfl,G⟩:=H6.1 hck;obtain⟨c,ss,t,b,J⟩:=h.cl G;have E:=h.cG j c ss b;have z:=E.ok;unfold cA.ok at z;have H:=b.lt;rcases I7 h hw (m:=c.aG) (a:=1) (no:=j+1) O O O with⟨hg,_⟩|⟨x,A1,sp1,hg,htk,hor⟩
  ·left;have y:Vw A sp (j:Int)=6:=by unfold Vw;rw[hck,zC rfl,dF,b.1,b.2];simp only;rw[hg]
   have D:cQ A sp (j:Int)=(A,sp):=by unfold cQ;rw[hck,zC rfl,dF,b.1,b.2];simp only;rw[hg]
   rw[D,y];exact⟨rfl,by simp,λ_=>rfl⟩
  ·right;have y:Vw A sp (j:Int)=G8 c ss x:=by unfold Vw;rw[hck,zC rfl,dF,b.1,b.2];simp only;rw[hg]
   have w:GA A1:=by
    rcases hor with⟨rfl,rfl⟩|⟨_,s,_,g⟩
    ·exact h
    ·exact h.grown g
   have i:St A A1 sp sp1:=by
    rcases hor with⟨rfl,rfl⟩|⟨_,s,_,g⟩
    ·exact St.refl h hw
    ·exact g.st h hw
   have d:A1.runs=A.runs/\A1.cR=A.cR/\A1.cG=A.cG:=by
    rcases hor with⟨rfl,rfl⟩|⟨_,s,_,g⟩
    ·exact⟨rfl,rfl,rfl⟩
    ·exact⟨g.runs,g.cR,g.cG⟩
   have p:Cl A1 j c ss:=⟨by rw[i.tb];exact b.1,by rw[d.2.2];exact b.2⟩;have C:=IH w.pg htk;obtain⟨F,hd⟩:=w.rX p C (PV w.pg O O htk);have B:=M6 hd;have u:cQ A sp (j:Int)=({dT A1 x c.aG (j+1)with cG:=(dT A1 x c.aG (j+1)).cG.set j (iu c ss x)},sp1):=by
    unfold cQ;rw[hck,zC rfl,dF,b.1,b.2];simp only;rw[hg];simp only;rw[zC B]
   refine⟨j,c,ss,x,A1,sp1,rfl,b,p,by rw[y];exact B,u,i,d.1,d.2.1,d.2.2,htk,hd,?_⟩;rw[u];have kp:=IX w.pg (no:=j+1) O O C;exact i.trans (St.kp F i.ow (kp.trans (Kp.aG rfl rfl rfl rfl)))
 ·left;have r:A.ck k=false:=by simpa using hck
  unfold cQ Vw;rw[r];exact⟨rfl,by simp,λh=>by cases h⟩
theorem χ (h:GA A)(hw:Ow A sp)(k:Int):St A (cQ A sp k).1 sp (cQ A sp k).2/\(cQ A sp k).1.runs=A.runs/\(cQ A sp k).1.cR=A.cR/\(∀j y,fS (cQ A sp k).1 j y↔fS A j y)/\(Vw A sp k≠0->cQ A sp k=(A,sp)):=by
 rcases Io h hw k with⟨e,_⟩|⟨j,c,ss,x,A1,sp1,rfl,hk,hk1,hE,e,hst,r1,r2,r3,_,hd,hS⟩
 ·rw[e];exact⟨St.refl h hw,rfl,rfl,λ_ _=>Iff.rfl,λ_=>rfl⟩
 ·refine⟨hS,by rw[e];exact r1,by rw[e];exact r2,λi y=>?_,λd=>(d hE).elim⟩;rw[e];have b:Cl (dT A1 x c.aG (j+1)) j c ss:=hk1;rw[Aj b,EF (h.cG j c ss hk) hd];have e2:fS (dT A1 x c.aG (j+1)) i y↔fS A i y:=by
   have:(dT A1 x c.aG (j+1)).tb=A.tb/\(dT A1 x c.aG (j+1)).cG=A.cG:=⟨hst.tb,r3⟩;unfold fS Cl;rw[this.1,this.2]
  rw[e2];by_cases hij:i=j
  ·subst hij;rw[VM hk];exact⟨λa=>by rcases a with⟨_,a⟩|⟨a,_⟩;exact a;exact(a rfl).elim,λa=>.inl ⟨rfl,a⟩⟩
  ·exact⟨λa=>by rcases a with⟨a,_⟩|⟨_,a⟩;exact(hij a).elim;exact a,λa=>.inr ⟨hij,a⟩⟩
theorem Nj {m a:Int}(h:KW m a=true):∃x y:Nat,m=x/\a=y/\1<=x/\x<=64/\(y=1\/y=2\/y=4\/y=8\/y=16):=by
 unfold KW at h;simp only[zF,zV,nW,zU]at h;exact⟨m.toNat,a.toNat,O,O,O,O,O⟩
theorem Oy (h:GA A)(hw:Ow A sp)(m a:Int) :
 (cC A sp m a=(A,sp)/\Q6 A sp m a≠0/\(KW m a=true->Q6 A sp m a=6/\ZB A.n A.S m.toNat a.toNat=none/\dB sp (KD (max m.toNat a.toNat))=none)) ∨
 ∃(x:Nat) (A1:AR) (sp1:Sp),KW m a=true/\Q6 A sp m a=0/\QD A sp m a=x/\cC A sp m a=({dT A1 x m.toNat 41 with runs:=A.runs++[(x,m.toNat)]},sp1) ∧
  ZB A1.n A1.S m.toNat a.toNat=some x/\(A1=A/\sp1=sp\/ZB A.n A.S m.toNat a.toNat=none/\∃s,dB sp (KD (max m.toNat a.toNat))=some s/\Grown A A1 sp sp1 s (KD (max m.toNat a.toNat))) ∧
  St A (cC A sp m a).1 sp (cC A sp m a).2/\(cC A sp m a).1.cR=A.cR/\(∀j y,fS (cC A sp m a).1 j y↔fS A j y):=by
 by_cases hp:KW m a=true
 ·obtain⟨b,w,rfl,rfl,J,L,P⟩:=Nj hp;have F:Q6 A sp (b:Int) (w:Int)=if(dC A sp b w 41).1.isSome then 0 else 6:=by unfold Q6;rw[zC hp,dF,dF]
  have M:QD A sp (b:Int) (w:Int)=(dC A sp b w 41).1.getD 0:=by unfold QD;rw[zC hp,dF,dF]
  rcases I7 h hw (m:=b) (a:=w) (no:=41) J L O with⟨hg,hn1,hn2⟩|⟨x,A1,sp1,hg,htk,hor⟩
  ·left;have H:cC A sp (b:Int) (w:Int)=(A,sp):=by unfold cC;rw[zC hp,dF,dF,hg]
   rw[H,F,hg,dF,dF];exact⟨rfl,by simp,λ_=>⟨rfl,hn1,hn2⟩⟩
  ·right;have z:GA A1:=by
    rcases hor with⟨rfl,rfl⟩|⟨_,s,_,g⟩
    ·exact h
    ·exact h.grown g
   have u:St A A1 sp sp1:=by
    rcases hor with⟨rfl,rfl⟩|⟨_,s,_,g⟩
    ·exact St.refl h hw
    ·exact g.st h hw
   have d:A1.runs=A.runs/\A1.cR=A.cR/\A1.cG=A.cG:=by
    rcases hor with⟨rfl,rfl⟩|⟨_,s,_,g⟩
    ·exact⟨rfl,rfl,rfl⟩
    ·exact⟨g.runs,g.cR,g.cG⟩
   have E:=IH z.pg htk;have B:∀r∈A.runs,r.1≠x:=λr N e=>by
    have C:r∈A1.runs:=by rw[d.1];exact N
    have:=z.ia r C;have R:=(z.jE C (p:=x) O O).1;have Q:=(z.pg.fr x).1 (E x O O);omega
   have i:cC A sp (b:Int) (w:Int)=({dT A1 x b 41 with runs:=A.runs++[(x,b)]},sp1):=by
    unfold cC;rw[zC hp,dF,dF,hg];show({dT A1 x b 41 with runs:=cC.mset2 A1.runs x b},sp1)=_;rw[d.1,OG B]
   have G:=z.uQ O E;rw[d.1]at G;have kp:=IX z.pg (no:=41) O O E;refine⟨x,A1,sp1,hp,by rw[F,hg];rfl,by rw[M,hg];rfl,by rw[dF];exact i,by rw[dF,dF];exact htk,by rw[dF,dF];exact hor,?_,by rw[i];exact d.2.1,λj y=>?_⟩
   ·rw[i];exact u.trans (St.kp G u.ow (kp.trans (Kp.aG rfl rfl rfl rfl)))
   ·rw[i];have e1:({dT A1 x b 41 with runs:=A.runs++[(x,b)]}:AR).tb=A.tb:=u.tb;have e2:({dT A1 x b 41 with runs:=A.runs++[(x,b)]}:AR).cG=A.cG:=d.2.2;unfold fS Cl;rw[e1,e2]
 ·left;have D:KW m a=false:=by simpa using hp
  unfold cC Q6;rw[D];exact⟨rfl,by simp,λK=>by cases K⟩
theorem Tl {x:Int}{r:Nat×Nat}(h:qT A x=some r):r∈A.runs/\x=(r.1:Int):=by
 unfold qT at h;exact⟨tW h,by have:=uJ h;simpa using Eq.symm (by simpa using this)⟩
theorem Η (h:GA A)(x:Int):(Kp A (Kc A x)/\GA (Kc A x))/\(Kc A x).cR=A.cR/\(∀j y,fS (Kc A x) j y↔fS A j y)/\(VA A x≠0->Kc A x=A) ∧
 (VA A x=0->∃r∈A.runs,x=(r.1:Int)/\(Kc A x).runs=A.runs.filter λq=>!(q==r)):=by
 cases hr:qT A x with
 | none=>
  have e:Kc A x=A:=by unfold Kc;rw[hr]
  have C:VA A x=8:=by unfold VA;rw[hr];rfl
  rw[e,C];exact⟨⟨Kp.refl A,h⟩,rfl,λ_ _=>Iff.rfl,λ_=>rfl,λi=>by cases i⟩
 | some r=>
  obtain⟨b,i⟩:=Tl hr;have u:=h.ia r b;have w:A.runs.filter (λq=>!((q.1:Int)==x))=A.runs.filter λq=>!(q==r):=by
   apply vI;intro q g;have:((q.1:Int)==x)=(q==r):=by
    rw[j0];simp only[zU];constructor
    ·intro e;have G:=h.ia q g;exact h.hU g b (x:=q.1) O O O O
    ·rintro rfl;exact i.symm
   rw[this]
  have e:Kc A x=UC {A with runs:=A.runs.filter λq=>!(q==r)} r:=by unfold Kc;rw[hr];simp only;rw[w]
  have C:VA A x=0:=by unfold VA;rw[hr];rfl
  obtain⟨a,m⟩:=r;obtain⟨o,hi,pg,F⟩:=Ln (A:={A with runs:=A.runs.filter λq=>!(q==(a,m))}) (h.pg.same rfl rfl rfl rfl) u (λp B D=>(h.jE b B D).1);have own:∀p,a<=p->p<a+m->A.ow p=41:=λp B D=>(h.jE b B D).2;have H:=h.tb;rw[e,C];refine⟨⟨⟨rfl,rfl,rfl,F,λp E=>?_⟩,?_⟩,rfl,λ_ _=>Iff.rfl,λi=>(i rfl).elim,λ_=>⟨_,b,i,rfl⟩⟩
  ·by_cases hin:a<=p/\p<a+m
   ·rw[(hi p hin.1 hin.2).1]at E;omega
   ·rw[o.f p hin]at E;exact E
  ·refine⟨pg,h.tb,h.lc,h.lt,h.cG,h.one,λj d tt z p=>?_,λp=>?_,λp=>?_,λq g=>h.ia q (zL.1 g).1,h.kE.filter _,h.qC,h.mu,h.pS⟩
   ·have z:Cl A j d tt:=z;have:=z.lt;by_cases hin:a<=p/\p<a+m
    ·rw[(hi p hin.1 hin.2).2,←h.ow j d tt z p,own p hin.1 hin.2];omega
    ·rw[o.ow p hin];exact h.ow j d tt z p
   ·show _↔m4 (A.runs.filter λq=>!(q==(a,m))) p;by_cases hin:a<=p/\p<a+m
    ·rw[(hi p hin.1 hin.2).2];constructor
     ·intro i;omega
     ·rintro⟨q,g,q1,q2⟩;have s:=zL.1 g;have:=h.hU s.1 b q1 q2 hin.1 hin.2;subst this;simp at s
    ·rw[o.ow p hin];show A.ow p=41↔_;rw[h.jX];constructor
     ·rintro⟨q,g,q1⟩;refine⟨q,zL.2 ⟨g,?_⟩,q1⟩;have:q≠(a,m):=by rintro rfl;exact hin q1
      simpa using this
     ·rintro⟨q,g,q1⟩;exact⟨q,(zL.1 g).1,q1⟩
   ·by_cases hin:a<=p/\p<a+m
    ·rw[(hi p hin.1 hin.2).2];omega
    ·rw[o.ow p hin];exact h.sT p
theorem CS (k:Nat):∀(outs:List (List Int)) {A:AR},GA A->outs.flatten.Nodup->(∀x∈outs.flatten,fS A k x/\¬ie A k x) →
 Ob A (outs.foldl (λA' xs=>ZY A' (k:Int) xs) A)/\(outs.foldl (λA' xs=>ZY A' (k:Int) xs) A).cR=A.cR/\∀j y,fS (outs.foldl (λA' xs=>ZY A' (k:Int) xs) A) j y↔fS A j y/\¬(j=k/\y∈outs.flatten)
 | [],A,h,_,_=>⟨⟨h,Kp.refl A,rfl⟩,rfl,by simp⟩
 | xs::outs,A,h,hn,ht=>by
  rw[vD]at hn ht;have hn':=nk.1 hn;have p:∀x∈xs,fS A k x/\¬ie A k x:=λx i=>ht x (kP _ i);rw[si];cases xs with
  | nil=>
   have s:ZY A (k:Int) []=A\/Kv A (k:Int) []=0:=by
    by_cases w:Kv A (k:Int) []=0
    ·exact .inr w
    ·exact .inl (by unfold ZY;rw[zB w])
   obtain⟨o,e,t,_⟩:=B0 h (k:=(k:Int)) (xs:=[]) (λ_=>by simp);have u:∀j y,fS (ZY A (k:Int) []) j y↔fS A j y:=λj y=>by
    rcases s with s|s
    ·rw[s]
    ·rw[t s];simp
   have m:∀j y,ie (ZY A (k:Int) []) j y↔ie A j y:=λj y=>by unfold ie;rw[e]
   obtain⟨o2,e2,z⟩:=CS k outs o.ga hn'.2.1 λx i=>by rw[u,m];exact ht x (oh _ i)
   exact⟨⟨o2.ga,o.kp.trans o2.kp,o2.runs.trans o.runs⟩,e2.trans e,λj y=>by rw[z,u];simp⟩
  | cons x0 xs=>
   obtain⟨c,C,B,_⟩:=(p x0 aA).1;have w:Kv A (k:Int) (x0::xs)=0:=by
    rw[GB h B];exact F2 ⟨λx i=>(VM B).1 (p x i).1,hn'.1⟩
   obtain⟨o,e,t,_⟩:=B0 h (k:=(k:Int)) (xs:=x0::xs) (λ_ x i=>by rw[dF];exact(p x i).2);have u:=t w;have m:∀j y,ie (ZY A (k:Int) (x0::xs)) j y↔ie A j y:=λj y=>by unfold ie;rw[e]
   obtain⟨o2,e2,z⟩:=CS k outs o.ga hn'.2.1 λx i=>by
    rw[u,m];have:=ht x (oh _ i);exact⟨⟨this.1,λg=>hn'.2.2 x g.2 x i rfl⟩,this.2⟩
   refine⟨⟨o2.ga,o.kp.trans o2.kp,o2.runs.trans o.runs⟩,e2.trans e,λj y=>?_⟩;rw[z,u,dF,vD,zM];constructor
   ·rintro⟨⟨a,b⟩,d⟩;refine⟨a,λ⟨r,g⟩=>?_⟩;rcases g with g|g
    ·exact b ⟨r,g⟩
    ·exact d ⟨r,g⟩
   ·rintro⟨a,b⟩;exact⟨⟨a,λ⟨r,g⟩=>b ⟨r,.inl g⟩⟩,λ⟨r,g⟩=>b ⟨r,.inr g⟩⟩
structure tQ (A B:AR):Prop where
 ob:Ob A B
 sub:∀j y,ie B j y->ie A j y
 tk:∀j y,fS B j y↔fS A j y/\(ie A j y->ie B j y)
theorem tQ.trans {B C:AR}(h:tQ A B)(k:tQ B C):tQ A C:=
 ⟨⟨k.ob.ga,h.ob.kp.trans k.ob.kp,k.ob.runs.trans h.ob.runs⟩,λj y g=>h.sub j y (k.sub j y g),λj y=>by
  rw[k.tk,h.tk];exact⟨λ⟨⟨a,b⟩,d⟩=>⟨a,λe=>d (b e)⟩,λ⟨a,b⟩=>⟨⟨a,λe=>k.sub j y (b e)⟩,λe=>b (h.sub j y e)⟩⟩⟩
theorem OJ (h:GA A)(hk:k<A.tb.length):tQ A (vq A k):=by
 obtain⟨c,H,t,D,m⟩:=h.cl hk;have u:k<A.cR.length:=by rw[h.lt];exact hk
 have e:vq A k=t.out.foldl (λA' w=>ZY A' (k:Int) w) {A with cR:=A.cR.set k t.tick}:=by unfold vq;rw[m]
 have z:t.bs=t.out++t.tick.bs:=(oD ((t.low+1)/2) t.bs).symm;have i:t.bs.flatten=t.out.flatten++t.tick.bs.flatten:=by conv=>lhs;rw[z];rw[List.flatten_append]
 have r:=h.qC k t m;rw[i]at r;have g:=nk.1 r;have s:∀x∈t.bs.flatten,fS A k x:=λx d=>(VM D).2 (h.mu k c H t D m x d);have F:GA {A with cR:=A.cR.set k t.tick}:=h.kf g.2.1 (λx d=>s x (by rw[i];exact oh _ d)) λG B w C=>h.pS k G t B m w (t.oY w C);obtain⟨o,e2,E⟩:=CS k t.out F g.1 λx d=>by
  refine⟨s x (by rw[i];exact kP _ d),?_⟩;rw[y6 u];rintro(⟨_,hy⟩|⟨hy,_⟩)
  ·exact g.2.2 x d x hy rfl
  ·exact hy rfl
 rw[←e]at o e2 E;have p:∀j y,ie (vq A k) j y↔(j=k/\y∈t.tick.bs.flatten)\/(j≠k/\ie A j y):=λj y=>by
  rw[←y6 u];unfold ie;rw[e2]
 refine⟨⟨o.ga,(Kp.aG rfl rfl rfl rfl:Kp A {A with cR:=A.cR.set k t.tick}).trans o.kp,o.runs⟩,λj y d=>?_,λj y=>?_⟩
 ·rcases(p j y).1 d with⟨rfl,hy⟩|⟨_,hy⟩
  ·rw[GK m,i];exact oh _ hy
  ·exact hy
 ·rw[E,p];show fS A j y/\_↔_;by_cases hjk:j=k
  ·subst hjk;rw[GK m,i,zM];constructor
   ·rintro⟨a,b⟩;refine⟨a,λd=>?_⟩;rcases d with d|d
    ·exact(b ⟨rfl,d⟩).elim
    ·exact .inl ⟨rfl,d⟩
   ·rintro⟨a,b⟩;refine⟨a,λ⟨_,d⟩=>?_⟩;rcases b (.inl d)with⟨_,hy⟩|⟨hy,_⟩
    ·exact g.2.2 y d y hy rfl
    ·exact hy rfl
  ·exact⟨λ⟨a,_⟩=>⟨a,λd=>.inr ⟨hjk,d⟩⟩,λ⟨a,_⟩=>⟨a,λ⟨d,_⟩=>hjk d⟩⟩
theorem LH (h:GA A):∀m,m<=A.tb.length->tQ A ((List.range m).foldl vq A)
 | 0,_=>⟨⟨h,Kp.refl A,rfl⟩,λ_ _=>id,λ_ _=>⟨λa=>⟨a,id⟩,λa=>a.1⟩⟩
 | m+1,hm=>by
  have t:=LH h m O;rw[qO,vn,si,List.foldl_nil];exact t.trans (OJ t.ob.ga (by rw[t.ob.kp.tb];omega))
theorem Rc (h:GA A):tQ A (sX A):=LH h _ (by rw[h.lt];exact zD _)
end Go.Ar
namespace Go.Ar
open Go.Bu (ZE Kj ZB qy VP dH take KP Vm Bounded)
variable {A:AR}{sp:Sp}{k:Nat}{c:cA}{ss:List cH}
end Go.Ar
namespace Go.Ar
structure Pc where
 k:Nat
 cls:Int
 addr:Nat
 size:Nat
 eU:Bool
 deriving DecidableEq
structure Wd where
 tb:List cA
 sp:Sp
 bZ:List AR
 held:List Pc
structure Act where
 kd:Int
 ar:Int
 cl:Int
 a:Int
 b:Int
 l:List Int
abbrev Key:=Nat×Int×Nat
def Pc.key (p:Pc):Key:=(p.k,p.cls,p.addr)
def l4 (k:Nat)(cls x:Int)(p:Pc):Bool:=p.k==k&&(p.cls==cls&&((p.addr:Int)==x && !p.eU))
def vZ (held:List Pc)(k:Nat)(cls x:Int):Option Nat:=held.findIdx? (l4 k cls x)
def jq (held:List Pc)(k:Nat)(cls:Int)(l:List Int):Bool:=l.all (λx=>(vZ held k cls x).isSome)&&decide l.Nodup
def l9 (k:Nat)(cls:Int)(held:List Pc)(x:Int):List Pc:=match vZ held k cls x with
 | some i=>held.take i++held.drop (i+1)
 | none=>held
def wT (held:List Pc)(k:Nat)(cls:Int)(l:List Int):List Pc:=l.foldl (l9 k cls) held
def eD (k:Nat)(cls:Int)(l:List Int)(p:Pc):Bool:=p.k==k&&(p.cls==cls&&l.contains (p.addr:Int))
def GL (held:List Pc)(k:Nat)(cls:Int)(l:List Int)(m:Bool):List Pc:=held.map λp=>if eD k cls l p then{p with eU:=m}else p
def Jz (held:List Pc)(x:Int):Bool:=held.any λp=>decide ((p.addr:Int)<=x)&&decide (x-(p.addr:Int)<(p.size:Int))
def Ap (us:List AR)(held:List Pc):List Pc:=held.filter λp=>!p.eU||(match us[p.k]? with
 | some A=>xR A (p.addr:Int)
 | none=>false)
def pU (tb:List cA)(k:Int):Nat:=((tb[k.toNat]?).map (·.size)).getD 0
def Wd.put (W:Wd)(k:Nat)(A:AR)(sp:Sp)(held:List Pc):Wd:={W with sp:=sp,bZ:=W.bZ.set k A,held:=held}
def Hd (A:AR)(p:Pc):Prop:=(p.cls = -1/\p.eU=false/\∃r∈A.runs,p.addr=r.1*256/\p.size=r.2*256) ∨
 ∃(j:Nat) (c:cA),p.cls=j/\A.tb[j]?=some c/\p.size=c.size/\fS A j (p.addr:Int)/\(p.eU=true↔ie A j (p.addr:Int))
structure WI (W:Wd):Prop where
 ga:∀(k:Nat) (A:AR),W.bZ[k]?=some A->GA A
 ow:∀(k:Nat) (A:AR),W.bZ[k]?=some A->Ow A W.sp
 tb:∀(k:Nat) (A:AR),W.bZ[k]?=some A->A.tb=W.tb
 low:∀(k:Nat) (A:AR),W.bZ[k]?=some A->∀p,p<16->A.f p=0
 own:∀p,gf W.sp.st p≠0->∃(k:Nat) (A:AR),W.bZ[k]?=some A/\A.f p≠0
 one:∀p (k l:Nat) (A B:AR),W.bZ[k]?=some A->W.bZ[l]?=some B->A.f p≠0->B.f p≠0->k=l
 hk:(W.held.map Pc.key).Nodup
 hf:∀p∈W.held,∃A,W.bZ[p.k]?=some A/\Hd A p
 ht:∀(k:Nat) (A:AR),W.bZ[k]?=some A->∀(j:Nat) (y:Int),fS A j y->∃p∈W.held,p.k=k/\p.cls=j/\(p.addr:Int)=y
 hr:∀(k:Nat) (A:AR),W.bZ[k]?=some A->∀r∈A.runs,∃p∈W.held,p.k=k/\p.cls = -1/\p.addr=r.1*256
variable {W:Wd}{k:Nat}{A:AR}
theorem VS {α:Type}{l:List α}{k j:Nat}{x y:α}(h:(l.set k x)[j]?=some y):(j=k/\y=x/\k<l.length)\/(j≠k/\l[j]?=some y):=by
 by_cases hjk:j=k
 ·subst hjk;have a:j<l.length:=by have:=(cY.1 h).1;simpa using this
  rw[zO a]at h;exact .inl ⟨rfl,(Option.some.inj h).symm,a⟩
 ·rw[zh (Ne.symm hjk)]at h;exact .inr ⟨hjk,h⟩
theorem WI.unique (h:WI W){p q:Pc}(hp:p∈W.held)(hq:q∈W.held)(e:p.key=q.key):p=q:=by
 obtain⟨i,hi⟩:=zP hp;obtain⟨j,d⟩:=zP hq;obtain⟨b,rfl⟩:=cY.1 hi;obtain⟨a,rfl⟩:=cY.1 d;have:=mw.1 h.hk;rcases qE i j with hl|hl|hl
 ·exact(this i j (by simpa using b) (by simpa using a) hl (by simpa using e)).elim
 ·subst hl;rfl
 ·exact(this j i (by simpa using a) (by simpa using b) hl (by simpa using e.symm)).elim
theorem WI.step (h:WI W)(hk:W.bZ[k]?=some A){B:AR}{sp':Sp}{held':List Pc}(s:St A B W.sp sp')(h1:(held'.map Pc.key).Nodup)(h2:∀p∈held',p.k=k->Hd B p)(h3:∀p,p.k≠k->(p∈held'↔p∈W.held))
 (h4:∀(j:Nat) (y:Int),fS B j y->∃p∈held',p.k=k/\p.cls=j/\(p.addr:Int)=y) (h5:∀r∈B.runs,∃p∈held',p.k=k/\p.cls = -1/\p.addr=r.1*256):WI (W.put k B sp' held'):=by
 have G:=(cY.1 hk).1;have u:(W.bZ.set k B)[k]?=some B:=zO G;have H:∀{j:Nat} {C:AR},j≠k->W.bZ[j]?=some C->(W.bZ.set k B)[j]?=some C:=λa g=>(zh (Ne.symm a)).trans g;have m:∀{j:Nat} {C:AR},j≠k->W.bZ[j]?=some C->∀p,C.f p≠0->A.f p=0/\B.f p=0/\gf sp'.st p=gf W.sp.st p:=by
  intro j C a g p b;have w:A.f p=0:=Classical.byContradiction λz=>a (h.one p j k C A g hk b z);have x:B.f p=0:=Classical.byContradiction λz=>by
   have:=(s.new p w z).1;exact(h.ow j C g).own p b this
  exact⟨w,x,s.same p w x⟩
 refine⟨λj C a=>?_,λj C a=>?_,λj C a=>?_,λj C a p b=>?_,λp b=>?_,λp j l C D a J g F=>?_,h1,λp b=>?_,λj C a i y K=>?_,λj C a r hr=>?_⟩
 ·rcases VS a with⟨rfl,rfl,_⟩|⟨_,a⟩
  ·exact s.ga
  ·exact h.ga j C a
 ·rcases VS a with⟨rfl,rfl,_⟩|⟨d,a⟩
  ·exact s.ow
  ·have o:=h.ow j C a;have L:=h.ow k A hk;refine⟨?_,λp b=>?_,λp b=>?_,s.ow.le⟩
   ·show sp'.st.length=C.n;rw[s.ow.l,s.n,←L.l,o.l]
   ·show gf sp'.st p≠0;rw[(m d a p b).2.2];exact o.own p b
   ·show gf sp'.st p=1;rw[(m d a p O).2.2];exact o.cl p b
 ·rcases VS a with⟨rfl,rfl,_⟩|⟨_,a⟩
  ·exact s.tb.trans (h.tb _ A hk)
  ·exact h.tb j C a
 ·rcases VS a with⟨rfl,rfl,_⟩|⟨_,a⟩
  ·apply Classical.byContradiction;intro z;have:=s.new p (h.low _ A hk p b) z;omega
  ·exact h.low j C a p b
 ·have b:gf sp'.st p≠0:=b;by_cases x:B.f p=0
  ·by_cases w:A.f p=0
   ·rw[s.same p w x]at b;obtain⟨j,C,a,g⟩:=h.own p b;have d:j≠k:=by
     rintro rfl;rw[hk]at a;cases a;exact g w
    exact⟨j,C,H d a,g⟩
   ·exact(b (s.gone p w x)).elim
  ·exact⟨k,B,u,x⟩
 ·rcases VS a with⟨rfl,rfl,_⟩|⟨d,hj'⟩
  ·rcases VS J with⟨rfl,rfl,_⟩|⟨hne2,hl'⟩
   ·rfl
   ·exact(g (m hne2 hl' p F).2.1).elim
  ·rcases VS J with⟨rfl,rfl,_⟩|⟨hne2,hl'⟩
   ·exact(F (m d hj' p g).2.1).elim
   ·exact h.one p j l C D hj' hl' g F
 ·by_cases hpk:p.k=k
  ·exact⟨B,by rw[hpk];exact u,h2 p b hpk⟩
  ·obtain⟨C,g,M⟩:=h.hf p ((h3 p hpk).1 b);exact⟨C,H hpk g,M⟩
 ·rcases VS a with⟨rfl,rfl,_⟩|⟨d,a⟩
  ·exact h4 i y K
  ·obtain⟨p,b,e1,e2,E⟩:=h.ht j C a i y K;exact⟨p,(h3 p (by rw[e1];exact d)).2 b,e1,e2,E⟩
 ·rcases VS a with⟨rfl,rfl,_⟩|⟨d,a⟩
  ·exact h5 r hr
  ·obtain⟨p,b,e1,e2,E⟩:=h.hr j C a r hr;exact⟨p,(h3 p (by rw[e1];exact d)).2 b,e1,e2,E⟩
theorem Hd.to {B:AR}{p:Pc}(h:Hd A p)(e1:B.tb=A.tb)(e2:B.runs=A.runs)(e3:∀j y,fS A j y->fS B j y)(e4:∀j y,ie B j y↔ie A j y):Hd B p:=by
 rcases h with⟨h1,h2,r,hr,h3⟩|⟨j,c,h1,h2,h3,h4,h5⟩
 ·exact .inl ⟨h1,h2,r,by rw[e2];exact hr,h3⟩
 ·exact .inr ⟨j,c,h1,by rw[e1];exact h2,h3,e3 _ _ h4,by rw[e4];exact h5⟩
theorem WI.hd (h:WI W)(hk:W.bZ[k]?=some A){p:Pc}(hp:p∈W.held)(e:p.k=k):Hd A p:=by
 obtain⟨C,a,b⟩:=h.hf p hp;rw[e,hk]at a;cases a;exact b
theorem WI.l8 (h:WI W)(hk:W.bZ[k]?=some A){B:AR}{sp':Sp}(s:St A B W.sp sp')(e2:B.runs=A.runs)(e3:∀j y,fS B j y↔fS A j y)(e4:B.cR=A.cR):WI (W.put k B sp' W.held):=
 h.step hk s h.hk (λp a e=>(h.hd hk a e).to s.tb e2 (λj y=>(e3 j y).2) λj y=>by unfold ie;rw[e4]) (λ_ _=>Iff.rfl) (λj y b=>h.ht k A hk j y ((e3 j y).1 b)) λr hr=>h.hr k A hk r (by rw[←e2];exact hr)
theorem WI.cls (h:WI W){p:Pc}(hp:p∈W.held){j:Nat}(e:p.cls=j)(hk:W.bZ[p.k]?=some A):∃c,A.tb[j]?=some c/\p.size=c.size/\fS A j (p.addr:Int)/\(p.eU=true↔ie A j (p.addr:Int)):=by
 rcases h.hd hk hp rfl with⟨h1,_⟩|⟨i,c,h1,h2,h3,h4,h5⟩
 ·omega
 ·obtain rfl:i=j:=by omega
  exact⟨c,h2,h3,h4,h5⟩
theorem WI.run (h:WI W){p:Pc}(hp:p∈W.held)(e:p.cls = -1)(hk:W.bZ[p.k]?=some A):p.eU=false/\∃r∈A.runs,p.addr=r.1*256/\p.size=r.2*256:=by
 rcases h.hd hk hp rfl with⟨_,h2⟩|⟨i,c,h1,_⟩
 ·exact h2
 ·omega
theorem Vr {k:Nat}{cls x:Int}{p:Pc}:l4 k cls x p=true↔p.k=k/\p.cls=cls/\(p.addr:Int)=x/\p.eU=false:=by
 simp[l4]
theorem QA {k:Nat}{cls:Int}{l:List Int}{p:Pc}:eD k cls l p=true↔p.k=k/\p.cls=cls/\(p.addr:Int)∈l:=by
 simp[eD]
theorem Υ {held:List Pc}{k:Nat}{cls x:Int}{i:Nat}(h:vZ held k cls x=some i):∃p,held[i]?=some p/\l4 k cls x p=true:=by
 obtain⟨hi,a,_⟩:=nI.1 h;exact⟨held[i],cW hi,a⟩
theorem PN {held:List Pc}{k:Nat}{cls x:Int}{p:Pc}(hp:p∈held)(h:l4 k cls x p=true):(vZ held k cls x).isSome=true:=by
 unfold vZ;rw[List.findIdx?_isSome,zy];exact⟨p,hp,h⟩
theorem Vl {held:List Pc}{k:Nat}{cls:Int}{l:List Int}:jq held k cls l=true↔(∀x∈l,∃p∈held,l4 k cls x p=true)/\l.Nodup:=by
 unfold jq;rw[zF,kz,zV];refine and_congr_left λ_=>forall_congr' λx=>imp_congr_right λa=>?_;unfold vZ;rw[List.findIdx?_isSome,zy]
theorem Ti {held:List Pc}(hn:(held.map Pc.key).Nodup){i:Nat}{p:Pc}(hi:held[i]?=some p):held.take i++held.drop (i+1)=held.filter λq=>!(q.key==p.key):=by
 induction held generalizing i with
 | nil=>simp at hi
 | cons q l ih=>
  rw[zR,zr]at hn;cases i with
  | zero=>
   simp only[y5,Option.some.injEq]at hi;subst hi;have:l.filter (λr=>!(r.key==q.key))=l:=by
    rw[qv];intro r hr;have:r.key≠q.key:=λe=>hn.1 (zE.2 ⟨r,hr,e⟩);simpa using this
   simp[this]
  | succ i=>
   have hi:l[i]?=some p:=by simpa using hi
   have a:q.key≠p.key:=λe=>hn.1 (zE.2 ⟨p,zG hi,e.symm⟩);rw[vu,vz,lJ,ih hn.2 hi,tK];have:(!(q.key==p.key))=true:=by simpa using a
   rw[this];rfl
theorem Uw {held:List Pc}(hn:(held.map Pc.key).Nodup)(f:Pc->Bool):((held.filter f).map Pc.key).Nodup:=hn.sublist (List.filter_sublist.map _)
theorem Il {k:Nat}{cls:Int}:∀(l:List Int) {held:List Pc},(held.map Pc.key).Nodup->(∀x∈l,∃p∈held,l4 k cls x p=true)->l.Nodup->wT held k cls l=held.filter λp=>!eD k cls l p
 | [],held,_,_,_=>by
  have:∀p,eD k cls [] p=false:=λp=>by simp[eD]
  exact(qv.2 λp _=>by rw[this];rfl).symm
 | x::l,held,hn,ho,hl=>by
  obtain⟨p,B,A⟩:=ho x aA;obtain⟨i,hi⟩:=pF.1 (PN B A);obtain⟨q,w,j⟩:=Υ hi;have d:=zr.1 hl;have e1:l9 k cls held x=held.filter λr=>!(r.key==q.key):=by unfold l9;rw[hi];exact Ti hn w
  obtain⟨q1,q2,q3,q4⟩:=Vr.1 j;have s:=Il l (held:=held.filter λr=>!(r.key==q.key)) (Uw hn _) (λy u=>by
   obtain⟨r,m,g⟩:=ho y (by simp[u]);refine⟨r,zL.2 ⟨m,?_⟩,g⟩;have:r.key≠q.key:=λe=>by
    have C:r.addr=q.addr:=congrArg (λz:Key=>z.2.2) e;have:=(Vr.1 g).2.2.1;have:y=x:=by omega
    subst this;exact d.1 u
   simpa using this) d.2
  unfold wT at s ⊢;rw[si,e1,s,Cr];apply vI;intro r m;have e:(r.key==q.key)=(r.k==k&&(r.cls==cls&&(r.addr:Int)==x)):=by
   rw[j0];simp only[Pc.key,zU,zF,Prod.mk.injEq];constructor
   ·rintro⟨a,b,c⟩;exact⟨O,O,O⟩
   ·rintro⟨a,b,c⟩;exact⟨O,O,O⟩
  rw[e];unfold eD;rw[List.contains_cons];cases r.k==k<;>cases r.cls==cls<;>cases((r.addr:Int)==x)<;>cases l.contains (r.addr:Int)<;>rfl
theorem Kg {held:List Pc}{k:Nat}{cls:Int}{l:List Int}{m:Bool}{p:Pc}:p∈GL held k cls l m↔∃q∈held,p=if eD k cls l q then{q with eU:=m}else q:=by
 unfold GL;rw[zE];constructor
 ·rintro⟨q,hq,rfl⟩;exact⟨q,hq,rfl⟩
 ·rintro⟨q,hq,rfl⟩;exact⟨q,hq,rfl⟩
theorem SX {held:List Pc}{k:Nat}{cls:Int}{l:List Int}{m:Bool}:(GL held k cls l m).map Pc.key=held.map Pc.key:=by
 unfold GL;rw[lK];apply kB;intro p _;simp only[Function.comp];split<;>rfl
theorem Ah (hk:W.bZ[k]?=some A)(h:WI W):WI (W.put k A W.sp W.held):=h.l8 hk (St.refl (h.ga k A hk) (h.ow k A hk)) rfl (λ_ _=>Iff.rfl) rfl
theorem Rj (h:GA A){j:Nat}{c:cA}{ss:List cH}(hc:Cl A j c ss){l:Nat}{s:cH}{i:Nat}(hs:ss[l]?=some s)(hi:i<c.n){x:Nat}(h1:at_ c s i<=x)(h2:x<at_ c s i+c.size):Hz A (x:Int)=some ((j:Int),at_ c s i):=by
 have d:=h.cG j c ss hc;have b:=Gj d.pos hi h1 h2;have a:=h.used hc (zG hs) b.1 b.2;have r:=h.pg.lt (p:=x/256) (by rw[a.1];omega);have u:=h.pg.n2;have m:=hc.lt;have g:=h.tb;unfold Hz;rw[zB O,dF];simp only;rw[zC (show x/256<1024 by omega),a.2,zB O,zB O,Nat.add_sub_cancel,hc.1,hc.2];simp only;rw[(Ij d).2 ⟨l,s,i,hs,hi,rfl,O,O⟩];rfl
theorem EU (h:GA A){r:Nat×Nat}(hr:r∈A.runs){x:Nat}(h1:r.1*256<=x)(h2:x<(r.1+r.2)*256):Hz A (x:Int)=some (-1,r.1*256):=by
 have a:=h.jE hr (p:=x/256) O O;have b:=h.pg.lt (p:=x/256) (by rw[a.1];omega);have d:=h.pg.n2;unfold Hz;rw[zB O,dF];simp only;rw[zC (show x/256<1024 by omega),a.2,zB O,zC rfl,CT h.pW hr O O];rfl
theorem Ma (h:GA A){x:Int}{k:Int}{a:Nat}(hf:Hz A x=some (k,a)):(k = -1/\∃r∈A.runs,a=r.1*256/\((r.1*256:Nat):Int)<=x/\x<(((r.1+r.2)*256:Nat):Int)) ∨
 ∃(j:Nat) (c:cA) (ss:List cH) (l:Nat) (s:cH) (i:Nat),k=j/\Cl A j c ss/\ss[l]?=some s/\i<c.n/\a=at_ c s i/\((at_ c s i:Nat):Int)<=x/\x<((at_ c s i+c.size:Nat):Int):=by
 unfold Hz at hf;split at hf
 ·cases hf
 ·rename_i hx;obtain⟨y,rfl⟩:=zc (show 0<=x by omega);rw[dF]at hf;simp only at hf;by_cases hlt:y/256<1024
  ·rw[zC hlt]at hf;split at hf
   ·cases hf
   ·split at hf
    ·rename_i h0 h41;obtain⟨r,d,b⟩:=oH.1 hf;have B:=tW d;have u:=uJ d;simp at u;cases b;exact .inl ⟨rfl,r,B,rfl,O,O⟩
    ·rename_i h0 h41;split at hf
     ·rename_i c ss h1 h2;obtain⟨C,p,b⟩:=oH.1 hf;cases b;have g:Cl A (A.ow (y/256)-1) c ss:=⟨h1,h2⟩;obtain⟨l,s,i,z,hi,rfl,m,w⟩:=(Ij (h.cG _ _ _ g)).1 p;exact .inr ⟨_,c,ss,l,s,i,rfl,g,z,hi,rfl,m,w⟩
     ·cases hf
  ·rw[zB hlt,zC rfl]at hf;cases hf
theorem fS.find (h:GA A){j:Nat}{x:Int}(hx:fS A j x):∃y:Nat,x=y/\Hz A x=some ((j:Int),y):=by
 obtain⟨c,m,b,d⟩:=hx;have a:=h.cG j c m b;obtain⟨l,s,i,g,hi,rfl,p⟩:=(Uf a).1 d;exact⟨_,rfl,Rj h b g hi (zD _) (by have:=a.pos;omega)⟩
theorem Bl (h:GA A){x:Int}:xR A x=true↔(∃j,fS A j x)\/∃r∈A.runs,x=((r.1*256:Nat):Int):=by
 constructor
 ·intro hx;unfold xR at hx;split at hx
  ·rename_i k a g;split at hx
   ·rename_i he;rcases Ma h g with⟨rfl,r,hr,rfl,_⟩|⟨j,c,d,l,s,i,rfl,b,hs,hi,rfl,_⟩
    ·exact .inr ⟨r,hr,he.symm⟩
    ·rw[zB O,dF,b.1,b.2]at hx;exact .inl ⟨j,c,d,b,by simpa[Tk]using hx⟩
   ·cases hx
  ·cases hx
 ·rintro(⟨j,hj⟩|⟨r,hr,rfl⟩)
  ·obtain⟨y,rfl,g⟩:=hj.find h;obtain⟨c,d,b,m⟩:=hj;unfold xR;rw[g];simp only;rw[zC True.intro,zB O,dF,b.1,b.2];unfold Tk at m;show(eI c d (y:Int)==some true)=true;rw[m];rfl
  ·unfold xR;have:=h.ia r hr;rw[EU h hr (zD _) O];simp
theorem WI.wF (h:WI W)(hk:W.bZ[k]?=some A){cl:Int}{l:List Int}(ho:jq W.held k cl l=true){j:Nat}(e:cl=j):∀x∈l,¬ie A j x:=by
 intro x hx hin;obtain⟨p,i,a⟩:=(Vl.1 ho).1 x hx;obtain⟨r,m,g,d⟩:=Vr.1 a;obtain⟨c,_,_,_,b⟩:=h.cls i (j:=j) (by rw[m,e]) (by rw[r];exact hk);rw[g]at b;rw[b.2 hin]at d;cases d
theorem WI.grow (h:WI W)(hk:W.bZ[k]?=some A)(x:Int):WI (W.put k (cQ A W.sp x).1 (cQ A W.sp x).2 W.held):=by
 obtain⟨s,e1,e2,a,_⟩:=χ (h.ga k A hk) (h.ow k A hk) x;exact h.l8 hk s e1 a e2
theorem WI.from (h:WI W)(hk:W.bZ[k]?=some A)(cl m:Int):WI (W.put k (YT A cl m) W.sp (W.held++(YA A cl m).map λy=>⟨k,cl,y,pU W.tb cl,false⟩)):=by
 obtain⟨o,e1,e2,F,E,z⟩:=EB (h.ga k A hk) cl m;have tb:(YT A cl m).tb=A.tb:=o.kp.tb;have i:∀y∈YA A cl m,∃j:Nat,cl=j/\j<A.tb.length:=λy g=>F (λe=>by rw[e]at g;simp at g);have w:∀y∈YA A cl m,∀p∈W.held,¬(p.k=k/\p.cls=cl/\p.addr=y):=by
  rintro y g p d ⟨G,K,M⟩;obtain⟨j,rfl,_⟩:=i y g;obtain⟨c,_,_,ht,_⟩:=h.cls d K (by rw[G];exact hk);rw[M]at ht;exact E y g (by rw[dF];exact ht)
 refine h.step hk (o.st (h.ow k A hk)) ?_ (λp d e=>?_) (λp C=>?_) (λj y g=>?_) λr hr=>?_
 ·rw[zm,nk];refine⟨h.hk,?_,λa L b H e=>?_⟩
  ·rw[lK];exact List.Pairwise.map (R:=(· ≠ ·)) _ (λa b B e=>B (by simpa[Pc.key]using e)) e2
  ·subst e;obtain⟨p,d,rfl⟩:=zE.1 L;obtain⟨q,J,e⟩:=zE.1 H;obtain⟨y,g,rfl⟩:=zE.1 J;simp only[Pc.key,Prod.mk.injEq]at e;exact w y g p d ⟨e.1.symm,e.2.1.symm,e.2.2.symm⟩
 ·rcases zM.1 d with d|d
  ·exact(h.hd hk d e).to tb o.runs (λj y s=>(z j y).2 (.inl s)) λj y=>by unfold ie;rw[e1]
  ·obtain⟨y,g,rfl⟩:=zE.1 d;obtain⟨j,rfl,s⟩:=i y g;refine .inr ⟨j,A.tb[j],rfl,by rw[tb];exact cW s,?_,(z j y).2 (.inr ⟨(dF j).symm,y,g,rfl⟩),?_⟩
   ·show pU W.tb (j:Int)=_;unfold pU;rw[dF,←h.tb k A hk,cW s];rfl
   ·constructor
    ·intro hx;cases hx
    ·rintro⟨t,ht,hx⟩;rw[e1]at ht;obtain⟨c,N,P,D,u⟩:=(h.ga k A hk).cl s;rw[ht]at u;cases u;exact(E y g (by rw[dF];exact(VM D).2 ((h.ga k A hk).mu j c N t D ht _ hx))).elim
 ·rw[zM];constructor
  ·rintro(d|d)
   ·exact d
   ·obtain⟨y,_,rfl⟩:=zE.1 d;exact(C rfl).elim
  ·exact .inl
 ·rcases(z j y).1 g with g|⟨rfl,x,hx,rfl⟩
  ·obtain⟨p,d,q⟩:=h.ht k A hk j y g;exact⟨p,kP _ d,q⟩
  ·obtain⟨j,rfl,_⟩:=i x hx;exact⟨_,oh _ (zE.2 ⟨x,hx,rfl⟩),rfl,by simp,rfl⟩
 ·rw[o.runs]at hr;obtain⟨p,d,q⟩:=h.hr k A hk r hr;exact⟨p,kP _ d,q⟩
theorem WI.Ao (h:WI W){cl:Int}{l:List Int}(ho:jq W.held k cl l=true):wT W.held k cl l=W.held.filter λp=>!eD k cl l p:=
 Il l h.hk (Vl.1 ho).1 (Vl.1 ho).2
theorem WI.SL (h:WI W)(hk:W.bZ[k]?=some A){cl:Int}{l:List Int}(ho:jq W.held k cl l=true):WI (W.put k (ZY A cl l) W.sp (if Kv A cl l=0 then wT W.held k cl l else W.held)):=by
 have ga:=h.ga k A hk;obtain⟨o,e1,e2,H⟩:=B0 ga (k:=cl) (xs:=l) λm x g=>by
  obtain⟨j,c,J,rfl,_⟩:=CG ga m;rw[dF];exact h.wF hk ho rfl x g
 by_cases m:Kv A cl l=0
 ·rw[zC m,h.Ao ho];obtain⟨j,c,J,rfl,L,N⟩:=CG ga m;have e2:=e2 m;rw[dF]at e2;refine h.step hk (o.st (h.ow k A hk)) (Uw h.hk _) (λp u e=>?_) (λp C=>?_) (λi y K=>?_) λr hr=>?_
  ·have s:=zL.1 u;have z:eD k (j:Int) l p=false:=by simpa using s.2
   rcases h.hd hk s.1 e with⟨h1,h2,r,hr,h3⟩|⟨i,d,h1,h2,h3,h4,h5⟩
   ·exact .inl ⟨h1,h2,r,by rw[o.runs];exact hr,h3⟩
   ·refine .inr ⟨i,d,h1,by rw[o.kp.tb];exact h2,h3,(e2 i _).2 ⟨h4,λ⟨a,b⟩=>?_⟩,by unfold ie at h5 ⊢;rw[e1];exact h5⟩;have:eD k (j:Int) l p=true:=QA.2 ⟨e,by rw[h1,a],b⟩;rw[z]at this;cases this
  ·rw[zL];have:eD k (j:Int) l p=false:=by
    apply nL.2;intro g;exact C (QA.1 g).1
   rw[this];simp
  ·obtain⟨F,D⟩:=(e2 i y).1 K;obtain⟨p,u,B,E,w⟩:=h.ht k A hk i y F;refine⟨p,zL.2 ⟨u,?_⟩,B,E,w⟩;have:eD k (j:Int) l p=false:=by
    apply nL.2;intro g;obtain⟨_,M,G⟩:=QA.1 g;exact D ⟨O,by rw[←w];exact G⟩
   rw[this];rfl
  ·rw[o.runs]at hr;obtain⟨p,u,B,E,w⟩:=h.hr k A hk r hr;refine⟨p,zL.2 ⟨u,?_⟩,B,E,w⟩;have:eD k (j:Int) l p=false:=by
    apply nL.2;intro g;have:=(QA.1 g).2.1;omega
   rw[this];rfl
 ·rw[zB m,H m];exact Ah hk h
theorem WI.move (h:WI W)(hk:W.bZ[k]?=some A){B:AR}{j:Nat}{l:List Int}{m:Bool}(o:Ob A B)(e1:∀i y,fS B i y↔fS A i y)(e2:∀i y,ie B i y↔if i=j/\y∈l then m=true else ie A i y):WI (W.put k B W.sp (GL W.held k (j:Int) l m)):=by
 refine h.step hk (o.st (h.ow k A hk)) (by rw[SX];exact h.hk) (λp b e=>?_) (λp a=>?_) (λi y g=>?_) λr hr=>?_
 ·obtain⟨q,u,rfl⟩:=Kg.1 b;have d:q.k=k:=by
   split at e<;>exact e
  rcases h.hd hk u d with⟨h1,h2,r,hr,h3⟩|⟨i,c,h1,h2,h3,h4,h5⟩
  ·have:eD k (j:Int) l q=false:=by
    apply nL.2;intro hx;have:=(QA.1 hx).2.1;omega
   rw[this];exact .inl ⟨h1,h2,r,by rw[o.runs];exact hr,h3⟩
  ·by_cases hx:eD k (j:Int) l q=true
   ·rw[zC hx];obtain⟨_,D,C⟩:=QA.1 hx;have s:i=j:=by omega
    refine .inr ⟨i,c,h1,by rw[o.kp.tb];exact h2,h3,(e1 _ _).2 h4,?_⟩;show m=true↔ie B i (q.addr:Int);rw[e2,zC ⟨s,C⟩]
   ·rw[zB hx];refine .inr ⟨i,c,h1,by rw[o.kp.tb];exact h2,h3,(e1 _ _).2 h4,?_⟩;rw[e2,zB λg=>hx (QA.2 ⟨d,by rw[h1,g.1],g.2⟩)];exact h5
 ·rw[Kg];constructor
  ·rintro⟨q,u,rfl⟩;have:eD k (j:Int) l q=false:=by
    apply nL.2;intro hx;rw[zC hx]at a;exact a (QA.1 hx).1
   rw[this];exact u
  ·intro b;refine⟨p,b,?_⟩;have:eD k (j:Int) l p=false:=by
    apply nL.2;intro hx;exact a (QA.1 hx).1
   rw[this];rfl
 ·obtain⟨p,b,w,x,z⟩:=h.ht k A hk i y ((e1 i y).1 g);refine⟨_,Kg.2 ⟨p,b,rfl⟩,?_,?_,?_⟩
  ·split<;>exact w
  ·split<;>exact x
  ·split<;>exact z
 ·rw[o.runs]at hr;obtain⟨p,b,w,x,z⟩:=h.hr k A hk r hr;refine⟨_,Kg.2 ⟨p,b,rfl⟩,?_,?_,?_⟩
  ·split<;>exact w
  ·split<;>exact x
  ·split<;>exact z
theorem Rp {held:List Pc}{k:Nat}{cls:Int}{m:Bool}:GL held k cls [] m=held:=by
 unfold GL;have:∀p,eD k cls [] p=false:=λp=>by simp[eD]
 simp[this]
theorem WI.wM (h:WI W)(hk:W.bZ[k]?=some A)(cl:Int):WI (W.put k (Z1 A cl) W.sp (GL W.held k cl (YQ A cl) false)):=by
 obtain⟨o,e1,e2,s,b,a⟩:=LG (h.ga k A hk) cl;by_cases hv:YQ A cl=[]
 ·rw[hv,Rp];have d:∀j y,ie (Z1 A cl) j y↔ie A j y:=λj y=>by rw[a,hv];simp
  refine h.step hk (o.st (h.ow k A hk)) h.hk (λp g e=>(h.hd hk g e).to o.kp.tb o.runs (λj y=>(e1 j y).2) d) (λ_ _=>Iff.rfl) (λj y m=>h.ht k A hk j y ((e1 j y).1 m)) λr hr=>h.hr k A hk r (by rw[←o.runs];exact hr)
 ·obtain⟨j,rfl,_⟩:=b hv;rw[dF]at a;exact h.move hk o e1 λi y=>by
   rw[a];split
   ·rename_i hx;simp[hx]
   ·rename_i hx;simp[hx]
theorem WI.Ss (h:WI W)(hk:W.bZ[k]?=some A){cl:Int}{l:List Int}(ho:jq W.held k cl l=true):WI (W.put k (KH A cl l) W.sp (if VN A cl l then GL W.held k cl l true else W.held)):=by
 by_cases a:VN A cl l=true
 ·have b:∃j:Nat,cl=j:=by
   have d:HE A cl l=0:=by
    unfold VN at a;simp only[zF,zV]at a;exact a.1
   have b:A.ck cl=true:=by
    unfold HE at d;split at d
    ·assumption
    ·cases d
   obtain⟨j,g,_⟩:=H6.1 b;exact⟨j,g⟩
  obtain⟨j,rfl⟩:=b;obtain⟨o,e1,e2,_⟩:=WmB (h.ga k A hk) (j:Int) (xs:=l) (Vl.1 ho).2 (by rw[dF];exact h.wF hk ho rfl);obtain⟨_,_,e2⟩:=e2 a;rw[dF]at e2;rw[a,zC rfl];exact h.move hk o e1 λi y=>by
   rw[e2];split
   ·rename_i hx;simp[hx]
   ·rename_i hx;simp[hx]
 ·have a:VN A cl l=false:=by simpa using a
  have e:KH A cl l=A:=by unfold KH;rw[a];rfl
  rw[a,e];exact Ah hk h
theorem WI.xK (h:WI W)(hk:W.bZ[k]?=some A)(m a:Int):WI (W.put k (cC A W.sp m a).1 (cC A W.sp m a).2 (if Q6 A W.sp m a=0 then W.held++[⟨k, -1,QD A W.sp m a*256,m.toNat*256,false⟩]else W.held)):=by
 rcases Oy (h.ga k A hk) (h.ow k A hk) m a with⟨e,hE,_⟩|⟨x,A1,sp1,g,hE,hV,e,htk,hor,s,et,ek⟩
 ·rw[zB hE,e];exact Ah hk h
 ·rw[zC hE,hV];have u:(cC A W.sp m a).1.runs=A.runs++[(x,m.toNat)]:=by rw[e]
  have w:∀r∈A.runs,r.1≠x:=by
   have hd:=s.ga.kE;rw[u]at hd;intro r hr e2;have z:=(qP.1 hd).2.2 r hr (x,m.toNat) aA;have B:=(h.ga k A hk).ia r hr;have i:=s.ga.ia (x,m.toNat) (by rw[u];simp);simp only at z i;omega
  refine h.step hk s ?_ (λp g e=>?_) (λp C=>?_) (λj y E=>?_) λr hr=>?_
  ·rw[zm,nk];refine⟨h.hk,by simp,λb D d hd e2=>?_⟩;subst e2;obtain⟨p,g,rfl⟩:=zE.1 D;simp only[zR,pq,zN,Pc.key,Prod.mk.injEq]at hd;obtain⟨_,r,hr,i,_⟩:=h.run g hd.2.1 (A:=A) (by rw[hd.1];exact hk);exact w r hr O
  ·rcases zM.1 g with g|g
   ·rcases h.hd hk g e with⟨z,B,r,hr,i⟩|⟨j,c,z,B,i,h4,h5⟩
    ·exact .inl ⟨z,B,r,by rw[u];exact kP _ hr,i⟩
    ·exact .inr ⟨j,c,z,by rw[s.tb];exact B,i,(ek _ _).2 h4,by unfold ie at h5 ⊢;rw[et];exact h5⟩
   ·simp only[zN]at g;subst g;exact .inl ⟨rfl,rfl,(x,m.toNat),by rw[u];simp,rfl,rfl⟩
  ·rw[zM];constructor
   ·rintro(g|g)
    ·exact g
    ·simp only[zN]at g;subst g;exact(C rfl).elim
   ·exact .inl
  ·obtain⟨p,g,q⟩:=h.ht k A hk j y ((ek j y).1 E);exact⟨p,kP _ g,q⟩
  ·rw[u]at hr;rcases zM.1 hr with hr|hr
   ·obtain⟨p,g,q⟩:=h.hr k A hk r hr;exact⟨p,kP _ g,q⟩
   ·simp only[zN]at hr;subst hr;exact⟨_,oh _ (zN.2 rfl),rfl,rfl,rfl⟩
theorem WI.nu (h:WI W)(hk:W.bZ[k]?=some A){r:Nat×Nat}(hr:r∈A.runs):jq W.held k (-1) [(r.1:Int)*256]=true:=by
 refine Vl.2 ⟨λx b=>?_,by simp⟩;simp only[zN]at b;subst b;obtain⟨p,a,d,g,i⟩:=h.hr k A hk r hr;exact⟨p,a,Vr.2 ⟨d,g,O,(h.run a g (by rw[d];exact hk)).1⟩⟩
theorem WI.xl (h:WI W)(hk:W.bZ[k]?=some A)(x:Int):WI (W.put k (Kc A x) W.sp (if VA A x=0 then wT W.held k (-1) [x*256]else W.held)):=by
 have ga:=h.ga k A hk;obtain⟨⟨kp,g⟩,K,J,e1,e2⟩:=Η ga x;by_cases h0:VA A x=0
 ·rw[zC h0];obtain⟨r,hr,rfl,G⟩:=e2 h0;rw[h.Ao (h.nu hk hr)];have m:∀p:Pc,eD k (-1) [(r.1:Int)*256] p=true↔p.k=k/\p.cls = -1/\p.addr=r.1*256:=λp=>by
   rw[QA];simp only[zN];constructor
   ·rintro⟨a,b,c⟩;exact⟨a,b,O⟩
   ·rintro⟨a,b,c⟩;exact⟨a,b,O⟩
  refine h.step hk (St.kp g (h.ow k A hk) kp) (Uw h.hk _) (λp z e=>?_) (λp B=>?_) (λi y L=>?_) λq d=>?_
  ·have u:=zL.1 z;have w:¬eD k (-1) [(r.1:Int)*256] p=true:=by simpa using u.2
   rw[m]at w;rcases h.hd hk u.1 e with⟨h1,h2,q,d,s⟩|⟨j,c,h1,h2,s,H,D⟩
   ·refine .inl ⟨h1,h2,q,?_,s⟩;rw[G,zL];refine⟨d,?_⟩;have:q≠r:=by rintro rfl;exact w ⟨e,h1,s.1⟩
    simpa using this
   ·exact .inr ⟨j,c,h1,by rw[kp.tb];exact h2,s,(J _ _).2 H,by unfold ie at D ⊢;rw[K];exact D⟩
  ·rw[zL];have:eD k (-1) [(r.1:Int)*256] p=false:=by
    apply nL.2;intro hx;exact B (QA.1 hx).1
   rw[this];simp
  ·obtain⟨p,z,C,E,F⟩:=h.ht k A hk i y ((J i y).1 L);refine⟨p,zL.2 ⟨z,?_⟩,C,E,F⟩;have:eD k (-1) [(r.1:Int)*256] p=false:=by
    apply nL.2;intro hx;have:=((m p).1 hx).2.1;omega
   rw[this];rfl
  ·rw[G,zL]at d;obtain⟨p,z,C,E,F⟩:=h.hr k A hk q d.1;refine⟨p,zL.2 ⟨z,?_⟩,C,E,F⟩;have:eD k (-1) [(r.1:Int)*256] p=false:=by
    apply nL.2;intro hx;have s:=((m p).1 hx).2.2;have H:=ga.ia q d.1;have D:=ga.ia r hr;have:q=r:=ga.hU d.1 hr (x:=q.1) O O O O;subst this;simp at d
   rw[this];rfl
 ·rw[zB h0,e1 h0];exact Ah hk h
theorem WI.tick (h:WI W)(hk:W.bZ[k]?=some A):WI (W.put k (sX A) W.sp (Ap (W.bZ.set k (sX A)) W.held)):=by
 have ga:=h.ga k A hk;have t:=Rc ga;have z:=(cY.1 hk).1;have d:(W.bZ.set k (sX A))[k]?=some (sX A):=zO z;have bS:∀p∈W.held,p∈Ap (W.bZ.set k (sX A)) W.held↔(p.k=k->∀j:Nat,p.cls=j->fS (sX A) j (p.addr:Int)):=by
  intro p a;unfold Ap;rw[zL];simp only[a,tJ,nW,mI];by_cases hpk:p.k=k
  ·rw[hpk,d];simp only[true_implies];rcases h.hd hk a hpk with⟨h1,h2,r,hr,h3⟩|⟨j,c,h1,h2,h3,h4,h5⟩
   ·exact⟨λ_ j w=>O,λ_=>.inl h2⟩
   ·constructor
    ·intro hx i hi;obtain rfl:i=j:=by omega
     rcases hx with hx|hx
     ·refine(t.tk i _).2 ⟨h4,λm=>?_⟩;rw[h5.2 m]at hx;cases hx
     ·rcases(Bl t.ob.ga).1 hx with⟨j',hj'⟩|⟨r,hr,e⟩
      ·obtain⟨y,e,hf⟩:=((t.tk j' _).1 hj').1.find ga;obtain⟨G,J,b⟩:=h4.find ga;rw[hf]at b;have:j'=i:=by
        have:=congrArg Prod.fst (Option.some.inj b);simp only at this;omega
       rw[←this];exact hj'
      ·rw[t.ob.runs]at hr;have:=ga.ia r hr;have H:=EU ga hr (x:=r.1*256) (zD _) O;obtain⟨G,J,b⟩:=h4.find ga;rw[e,H]at b;have:=congrArg Prod.fst (Option.some.inj b);simp only at this;omega
    ·intro hx;by_cases hm:p.eU=true
     ·exact .inr ((Bl t.ob.ga).2 (.inl ⟨j,hx j h1⟩))
     ·exact .inl (by simpa using hm)
  ·constructor
   ·intro _ hx;exact(hpk hx).elim
   ·intro _;obtain⟨C,E,K⟩:=h.hf p a;rw[zh (Ne.symm hpk),E];rcases K with⟨h1,h2,_⟩|⟨j,c,_,_,_,h4,_⟩
    ·exact .inl h2
    ·exact .inr ((Bl (h.ga _ C E)).2 (.inl ⟨j,h4⟩))
 have sub:∀p,p∈Ap (W.bZ.set k (sX A)) W.held->p∈W.held:=λp a=>(zL.1 a).1;refine h.step hk (t.ob.st (h.ow k A hk)) (Uw h.hk _) (λp a e=>?_) (λp B=>⟨sub p,λa=>(bS p a).2 λe=>(B e).elim⟩) (λj y F=>?_) λr hr=>?_
 ·have s:=(bS p (sub p a)).1 a e;rcases h.hd hk (sub p a) e with⟨h1,h2,r,hr,h3⟩|⟨j,c,h1,h2,h3,h4,h5⟩
  ·exact .inl ⟨h1,h2,r,by rw[t.ob.runs];exact hr,h3⟩
  ·have w:=s j h1;refine .inr ⟨j,c,h1,by rw[t.ob.kp.tb];exact h2,h3,w,?_⟩;rw[h5];exact⟨((t.tk j _).1 w).2,t.sub j _⟩
 ·obtain⟨p,a,u,D,g⟩:=h.ht k A hk j y ((t.tk j y).1 F).1;refine⟨p,(bS p a).2 λ_ i hi=>?_,u,D,g⟩;obtain rfl:i=j:=by omega
  rw[g];exact F
 ·rw[t.ob.runs]at hr;obtain⟨p,a,u,D,g⟩:=h.hr k A hk r hr;exact⟨p,(bS p a).2 λ_ i hi=>O,u,D,g⟩
theorem WI.pO (h:WI W){p:Pc}(hp:p∈W.held)(hk:W.bZ[p.k]?=some A){x:Nat}(h1:p.addr<=x)(h2:x<p.addr+p.size):A.f (x/256)=1:=by
 have ga:=h.ga _ A hk;rcases h.hd hk hp rfl with⟨_,_,r,hr,e1,e2⟩|⟨j,c,_,hc,e1,ht,_⟩
 ·exact(ga.jE hr O O).1
 ·obtain⟨b,u,a,d⟩:=ht;have:b=c:=Option.some.inj (a.1.symm.trans hc);subst this;have g:=ga.cG j b u a;obtain⟨l,s,i,m,hi,e,_⟩:=(Uf g).1 d;have w:p.addr=at_ b s i:=Int.ofNat.inj e;have:=Gj g.pos hi (s:=s) (x:=x) O O;exact(ga.used a (zG m) this.1 this.2).1
theorem WI.write (h:WI W){x v:Int}(hi:Jz W.held x=true):WI {W with sp:=ZI W.sp x v}:=by
 unfold Jz at hi;rw[zy]at hi;obtain⟨p,r,s⟩:=hi;simp only[zF,zV]at s;obtain⟨y,rfl⟩:=zc (show 0<=x by omega);obtain⟨A,hk,_⟩:=h.hf p r;have w:=h.pO r hk (x:=y) O O;have i:=(h.ow _ A hk).own (y/256) O;by_cases hacc:eO W.sp (y:Int)=0
 ·have e:(ZI W.sp (y:Int) v).st=W.sp.st.set (y/256) 2:=by
   unfold ZI;rw[zC hacc];show W.sp.st.set (_/32) 2=_;rw[dF,show y/8/32=y/256 by omega]
  have g:=I4 i;have d:∀q,gf (ZI W.sp (y:Int) v).st q=if q=y/256 then 2 else gf W.sp.st q:=λq=>by
   rw[e];unfold gf;simp only[zQ];by_cases a:q=y/256
   ·subst a;rw[zO g,zC rfl];rfl
   ·rw[zh (Ne.symm a),zB a]
  have m:∀q,gf (ZI W.sp (y:Int) v).st q≠0↔gf W.sp.st q≠0:=λq=>by
   rw[d];split
   ·rename_i a;subst a;simp[i]
   ·exact Iff.rfl
  refine⟨h.ga,λj C b=>?_,h.tb,h.low,λq a=>h.own q ((m q).1 a),h.one,h.hk,h.hf,h.ht,h.hr⟩;have o:=h.ow j C b;refine⟨by show(ZI W.sp (y:Int) v).st.length=_;rw[e,oQ];exact o.l,λq a=>(m q).2 (o.own q a),λq a=>?_,λq=>?_⟩
  ·show gf (ZI W.sp (y:Int) v).st q=1;rw[d,zB]
   ·exact o.cl q a
   ·rintro rfl;have u:j=p.k:=h.one (y/256) j p.k C A b hk O O;subst u;rw[hk]at b;cases b;omega
  ·show gf (ZI W.sp (y:Int) v).st q<=2;rw[d];have:=o.le q;split<;>omega
 ·have e:ZI W.sp (y:Int) v=W.sp:=by unfold ZI;rw[zB hacc]
  rw[e];exact h
theorem fS.lt (h:GA A){j:Nat}{x:Int}(hx:fS A j x):∃y:Nat,x=y/\y<262144:=by
 obtain⟨c,r,d,g⟩:=hx;have a:=h.cG j c r d;obtain⟨l,s,i,m,hi,rfl,w⟩:=(Uf a).1 g;have b:=Gj a.pos (s:=s) (x:=at_ c s i) hi (zD _) (by have:=a.pos;omega);have u:=(h.used d (zG m) b.1 b.2).1;have:=h.pg.lt (p:=at_ c s i/256) O;have:=h.pg.n2;exact⟨_,rfl,O⟩
theorem WI.jU (h:WI W){p:Pc}(hp:p∈W.held):p.addr<262144/\p.addr+p.size<=270000:=by
 obtain⟨A,m,d⟩:=h.hf p hp;have ga:=h.ga _ A m;have s:=ga.pg.n2;rcases d with⟨_,_,r,hr,h1,h2⟩|⟨j,c,_,hc,h2,h3,_⟩
 ·have u:=ga.fit hr;have x:=ga.ia r hr;omega
 ·obtain⟨y,e,w⟩:=h3.lt ga;obtain⟨i,g,a,_⟩:=h3;have:i=c:=Option.some.inj (a.1.symm.trans hc);subst this;have b:=(ga.cG j _ g a).ok;unfold cA.ok at b;omega
theorem Iq:∀(N:Nat) (l:List Nat),l.Nodup->(∀x∈l,x<N)->l.length<=N
 | 0,l,_,h=>by
  cases l with
  | nil=>simp
  | cons x l=>have:=h x aA;omega
 | N+1,l,hn,h=>by
  have i:=Iq N (l.filter (· != N)) (hn.sublist ux) λx b=>by
   have b:=zL.1 b;have:=h x b.1;have:x≠N:=by simpa using b.2
   omega
  have d:=List.length_eq_countP_add_countP (l:=l) (p:=(· != N));have g:l.countP (λa=>¬(a != N)=true)<=1:=by
   have e:l.countP (λa=>¬(a != N)=true)=l.count N:=by
    unfold List.count;apply List.countP_congr;intro x _;simp
   rw[e];exact DF.1 hn N
  rw[AP]at d;omega
theorem WI.apart (h:WI W){p q:Pc}(hp:p∈W.held)(hq:q∈W.held){x:Nat}(p1:p.addr<=x)(p2:x<p.addr+p.size)(q1:q.addr<=x)(q2:x<q.addr+q.size):p=q:=by
 obtain⟨A,y,K⟩:=h.hf p hp;obtain⟨B,m,E⟩:=h.hf q hq;have e1:=h.pO hp y p1 p2;have e2:=h.pO hq m q1 q2;have z:p.k=q.k:=h.one (x/256) p.k q.k A B y m O O;rw[←z,y]at m;cases m;have ga:=h.ga _ A y;have F:=ga.tb;have own:∀{r:Pc},Hd A r->r.addr<=x->x<r.addr+r.size->(r.cls = -1/\A.ow (x/256)=41/\∃u∈A.runs,r.addr=u.1*256/\u.1<=x/256/\x/256<u.1+u.2) ∨
  ∃(j:Nat) (c:cA) (b:List cH) (l:Nat) (s:cH) (i:Nat),r.cls=j/\A.ow (x/256)=j+1/\Cl A j c b/\b[l]?=some s/\i<c.n/\r.addr=at_ c s i/\r.size=c.size:=by
  intro r hr r1 r2;rcases hr with⟨c1,_,u,hu,c2,c3⟩|⟨j,c,c1,c2,c3,c4,_⟩
  ·exact .inl ⟨c1,(ga.jE hu O O).2,u,hu,c2,O,O⟩
  ·obtain⟨d,b,a,G⟩:=c4;have:d=c:=Option.some.inj (a.1.symm.trans c2);subst this;have C:=ga.cG j d b a;obtain⟨l,s,i,D,hi,e,_⟩:=(Uf C).1 G;have H:r.addr=at_ d s i:=Int.ofNat.inj e;have g:=Gj C.pos (s:=s) (x:=x) hi O O;exact .inr ⟨j,d,b,l,s,i,c1,(ga.used a (zG D) g.1 g.2).2,a,D,hi,H,c3⟩
 refine h.unique hp hq ?_;rcases own K p1 p2 with⟨a1,a2,u,hu,a3,a4,a5⟩|⟨j,c,b,l,s,i,a1,a2,a3,a4,a5,a6,a7⟩
 ·rcases own E q1 q2 with⟨b1,b2,w,hw,b3,b4,b5⟩|⟨j',d,ss',l',s',i',b1,b2,b3,b4,b5,b6,b7⟩
  ·have:=ga.hU hu hw a4 a5 b4 b5;subst this;unfold Pc.key;rw[z,a1,b1,a3,b3]
  ·have:=b3.lt;omega
 ·rcases own E q1 q2 with⟨b1,b2,w,hw,b3,b4,b5⟩|⟨j',d,ss',l',s',i',b1,b2,b3,b4,b5,b6,b7⟩
  ·have:=a3.lt;omega
  ·have J:j=j':=by omega
   subst J;obtain⟨rfl,rfl⟩:=a3.eq b3;have:=UW (ga.cG j c b a3) a4 b4 a5 b5 (x:=x) O O O O;unfold Pc.key;rw[z,a1,b1,a6,b6,this.2.1,this.2.2]
theorem WI.size_pos (h:WI W){p:Pc}(hp:p∈W.held):8<=p.size/\p.size%8=0:=by
 obtain⟨A,m,d⟩:=h.hf p hp;have ga:=h.ga _ A m;rcases d with⟨_,_,r,hr,h1,h2⟩|⟨j,c,_,hc,h2,h3,_⟩
 ·have s:=ga.ia r hr;omega
 ·obtain⟨i,g,a,_⟩:=h3;have:i=c:=Option.some.inj (a.1.symm.trans hc);subst this;have b:=(ga.cG j _ g a).ok;unfold cA.ok at b;omega
theorem WI.len (h:WI W):W.held.length<=262144:=by
 have m:(W.held.map (·.addr)).Nodup:=by
  have g:=mw.1 h.hk;refine mw.2 λi j hi s d e=>?_;have b:i<W.held.length:=by simpa using hi
  have a:j<W.held.length:=by simpa using s
  refine g i j (by simpa using b) (by simpa using a) d ?_;simp only[uT]at e ⊢;have s1:=(h.size_pos (kv b)).1;have s2:=(h.size_pos (kv a)).1;rw[h.apart (kv b) (kv a) (x:=W.held[i].addr) (zD _) O O O]
 have:=Iq 262144 _ m λx r=>by
  obtain⟨p,u,rfl⟩:=zE.1 r;exact(h.jU u).1
 simpa using this
end Go.Ar
namespace Go.Ar
open Go.Vc (bU dA cO)
def mC (live:List (Int×Bk))(k x:Int):Nat:=live.countP λe=>e.2.2.2.1==k&&e.1==x
def mg (ls:List Li)(k x:Int):Nat:=if 0<=k then(ls.getD k.toNat ir).os.count x else 0
def mo (bs:List Bt)(k x:Int):Nat:=(bs.map λb=>if(b.1:Int)=k then b.2.count x else 0).sum
def jK (p:Option Ph)(k x:Int):Nat:=match p with
 | some (.dH s _)=>if k = -1/\x=s*256 then 1 else 0
 | _=>0
def gU (g:Th)(k x:Int):Nat:=mg g.ls k x+mo g.bQ k x+jK g.ph k x
def rU (H:Hw)(k x:Int):Nat:=mC H.live k x+(H.bR.map λg=>gU g k x).sum
def Um (held:List Pc)(k x:Int):Prop:=∃p∈held,p.eU=false/\p.cls=k/\(p.addr:Int)=x
open Classical in
noncomputable def lF (held:List Pc)(k x:Int):Nat:=if Um held k x then 1 else 0
theorem IQ (held:List Pc)(k x:Int):lF held k x<=1:=by unfold lF;split<;>omega
theorem Bw {held:List Pc}{k x:Int}(h:1<=lF held k x):Um held k x:=by
 unfold lF at h;split at h
 ·assumption
 ·omega
theorem V4 {held:List Pc}{k x:Int}(h:Um held k x):lF held k x=1:=by unfold lF;rw[zC h]
theorem K0 {held:List Pc}{k x:Int}(h:¬Um held k x):lF held k x=0:=by unfold lF;rw[zB h]
theorem Lc {l:List Int}(hn:l.Nodup)(x:Int):l.count x=if x∈l then 1 else 0:=by
 split
 ·rename_i h;have a:=DF.1 hn x;have b:=CM.2 h;omega
 ·rename_i h;exact Al.2 h
theorem Ee {held held':List Pc}{cl:Int}{l:List Int}(hn:l.Nodup)(h0:∀x∈l,¬Um held cl x)(h:∀k x,Um held' k x↔Um held k x\/(k=cl/\x∈l))(k x:Int):lF held' k x=lF held k x+(if cl=k then l.count x else 0):=by
 by_cases hk:cl=k
 ·subst hk;rw[zC rfl,Lc hn];by_cases hx:x∈l
  ·rw[zC hx,K0 (h0 x hx),V4 ((h _ _).2 (.inr ⟨rfl,hx⟩))]
  ·rw[zB hx,ko];by_cases hu:Um held cl x
   ·rw[V4 hu,V4 ((h _ _).2 (.inl hu))]
   ·rw[K0 hu,K0 λa=>by rcases(h _ _).1 a with a|⟨_,a⟩;exact hu a;exact hx a]
 ·rw[zB hk,ko];by_cases hu:Um held k x
  ·rw[V4 hu,V4 ((h _ _).2 (.inl hu))]
  ·rw[K0 hu,K0 λa=>by rcases(h _ _).1 a with a|⟨a,_⟩;exact hu a;exact hk a.symm]
theorem Ls {held held':List Pc}{cl:Int}{l:List Int}(hn:l.Nodup)(h0:∀x∈l,Um held cl x)(h:∀k x,Um held' k x↔Um held k x/\¬(k=cl/\x∈l))(k x:Int):lF held k x=lF held' k x+(if cl=k then l.count x else 0):=by
 by_cases hk:cl=k
 ·subst hk;rw[zC rfl,Lc hn];by_cases hx:x∈l
  ·rw[zC hx,V4 (h0 x hx),K0 λa=>((h _ _).1 a).2 ⟨rfl,hx⟩]
  ·rw[zB hx,ko];by_cases hu:Um held cl x
   ·rw[V4 hu,V4 ((h _ _).2 ⟨hu,λa=>hx a.2⟩)]
   ·rw[K0 hu,K0 λa=>hu ((h _ _).1 a).1]
 ·rw[zB hk,ko];by_cases hu:Um held k x
  ·rw[V4 hu,V4 ((h _ _).2 ⟨hu,λa=>hk a.1.symm⟩)]
  ·rw[K0 hu,K0 λa=>hu ((h _ _).1 a).1]
theorem LA {α:Type}(f:α->Nat):∀{l:List α} {t:Nat} {g:α} (g':α),l[t]?=some g->((l.set t g').map f).sum+f g=(l.map f).sum+f g'
 | [],t,g,g',h=>by simp at h
 | a::l,0,g,g',h=>by
  simp only[y5,Option.some.injEq]at h;subst h;simp only[List.set_cons_zero,zR,oB];omega
 | a::l,t+1,g,g',h=>by
  have:=LA f (l:=l) (t:=t) g' (by simpa using h);simp only[tC,zR,oB];omega
theorem Bj {α:Type}(f:α->Nat){l:List α}{g:α}(h:g∈l):f g<=(l.map f).sum:=by
 induction l with
 | nil=>simp at h
 | cons a l ih=>
  simp only[zR,oB];rcases zW.1 h with rfl|h
  ·omega
  ·have:=ih h;omega
theorem wV (ls:List Li)(k:Nat)(x:Int):mg ls (k:Int) x=(ls.getD k ir).os.count x:=by
 unfold mg;rw[zC O,dF]
theorem I0 {ls:List Li}{j:Nat}(l:Li)(k:Nat)(h:j<ls.length):(ls.set j l).getD k ir=if k=j then l else ls.getD k ir:=by
 rw[zQ,nB];by_cases hkj:k=j
 ·subst hkj;simp[h]
 ·rw[zB hkj,zB (Ne.symm hkj),zQ]
theorem WmL {ls:List Li}{j:Nat}(l:Li)(h:j<ls.length)(k x:Int):mg (ls.set j l) k x+(if(j:Int)=k then(ls.getD j ir).os.count x else 0)=mg ls k x+(if(j:Int)=k then l.os.count x else 0):=by
 by_cases hk:0<=k
 ·obtain⟨k,rfl⟩:=zc hk;rw[wV,wV,I0 l k h];by_cases hjk:j=k
  ·subst hjk;simp;omega
  ·have:¬(j:Int)=(k:Int):=by omega
   rw[zB (Ne.symm hjk),zB this,zB this]
 ·unfold mg;rw[zB hk,zB hk,zB O,zB O]
theorem V7 (k x:Int):mo [] k x=0:=rfl
theorem Vp (b:Bt)(bs:List Bt)(k x:Int):mo (b::bs) k x=(if(b.1:Int)=k then b.2.count x else 0)+mo bs k x:=by
 unfold mo;rw[zR,oB]
theorem Lm (a b:List Bt)(k x:Int):mo (a++b) k x=mo a k x+mo b k x:=by
 unfold mo;rw[zm,List.sum_append]
theorem ET {f:cA->Li->List Int×Li}(hf:∀c l x,(f c l).1.count x+(f c l).2.os.count x=l.os.count x){tb:List cA}{ls:List Li}(hl:ls.length=tb.length)(k x:Int):mo (KN f tb ls) k x+mg (KI f tb ls) k x=mg ls k x:=by
 have key:∀n,n<=tb.length->mo ((List.range n).filterMap λk=>match tb[k]?,ls[k]? with
  | some c,some l=>if(f c l).1=[]then none else some (k,(f c l).1)
  | _,_=>none) k x=if 0<=k/\k<(n:Int)then(match tb[k.toNat]?,ls[k.toNat]? with
  | some c,some l=>(f c l).1.count x
  | _,_=>0)else 0:=by
  intro n
  induction n with
  | zero=>intro _;rw[zB O];rfl
  | succ n i=>
   intro hn;have i:=i O;rw[qO,xN,Lm,i];have d:tb[n]?=some tb[n]:=cW O;have a:ls[n]?=some ls[n]:=cW O;have e:mo ([n].filterMap λk=>match tb[k]?,ls[k]? with
    | some c,some l=>if(f c l).1=[]then none else some (k,(f c l).1)
    | _,_=>none) k x=if(n:Int)=k then(f tb[n] ls[n]).1.count x else 0:=by
    rw[DQ,d,a];simp only;by_cases he:(f tb[n] ls[n]).1=[]
    ·rw[zC he,he];simp[V7]
    ·rw[zB he];simp only[List.filterMap_nil,Vp,V7,ko]
   rw[e];by_cases b:0<=k/\k<(n:Int)
   ·rw[zC b,zB (show ¬(n:Int)=k by omega),ko,zC (show 0<=k/\k<((n+1:Nat):Int)from⟨b.1,O⟩)]
   ·rw[zB b,zH];by_cases g:(n:Int)=k
    ·subst g;rw[zC rfl,zC (show(0:Int)<=(n:Int)/\(n:Int)<((n+1:Nat):Int)from⟨O,O⟩),dF,d,a]
    ·rw[zB g,zB O]
 have b:=key tb.length (zD _);have e:KN f tb ls=(List.range tb.length).filterMap λk=>match tb[k]?,ls[k]? with
  | some c,some l=>if(f c l).1=[]then none else some (k,(f c l).1)
  | _,_=>none:=rfl
 rw[e,b];by_cases hk:0<=k
 ·obtain⟨k,rfl⟩:=zc hk;rw[wV,wV,dF];by_cases hkl:k<tb.length
  ·have d:tb[k]?=some tb[k]:=cW hkl;have a:ls[k]?=some ls[k]:=cW O;rw[zC ⟨O,O⟩,d,a];simp only;have:(KI f tb ls).getD k ir=(f tb[k] ls[k]).2:=by
    unfold KI;rw[zQ,BR,d,a];rfl
   rw[this,zQ,a];exact hf _ _ _
  ·rw[zB O,zH];have b:(KI f tb ls).getD k ir=ir:=by
    unfold KI;rw[zQ,zX (by rw[List.length_zipWith];omega)];rfl
   have g:ls.getD k ir=ir:=by rw[zQ,zX O];rfl
   rw[b,g]
 ·rw[zB O,zH];unfold mg;rw[zB hk,zB hk]
theorem DO (m:Nat)(l:Li)(x:Int):(gO m l).1.count x+(gO m l).2.os.count x=l.os.count x:=by
 show(l.os.take m).count x+(l.os.drop m).count x=_;rw[←wZ,oD]
theorem M9 (c:cA)(l:Li)(x:Int):(Vz c l).1.count x+(Vz c l).2.os.count x=l.os.count x:=DO _ l x
theorem SW (c:cA)(l:Li)(x:Int):(Qc c l).1.count x+(Qc c l).2.os.count x=l.os.count x:=DO _ l x
theorem NW (c:cA)(y:Int)(l:Li)(hl:l.os.length<=255)(x:Int):(dM c y l).1.count x+(dM c y l).2.os.count x=l.os.count x + [y].count x:=by
 have a:(eM [y] l).os=l.os++[y]:=by
  unfold eM;rw[zB aE]
 unfold dM;rw[zB O];split
 ·rw[a,List.count_nil,zH,wZ]
 ·rw[DO];have:(mH c (eM [y] l)).os=(eM [y] l).os:=by unfold mH;split<;>rfl
  rw[this,a,wZ]
theorem Fm {c:cA}{l l':Li}{y:Int}(h:KK c l=(some y,l'))(x:Int):l.os.count x=l'.os.count x + [y].count x:=by
 unfold KK at h;split at h
 ·simp at h
 ·rename_i z hz;cases h;have:l.os=l.os.dropLast++[y]:=by
   obtain⟨b,a⟩:=List.getLast?_eq_some_iff.1 hz;rw[a];simp
  conv=>lhs;rw[this]
  rw[wZ]
theorem T5 {c:cA}{l l':Li}(h:KK c l=(none,l')):l.os=[]/\l'.os=[]:=by
 unfold KK at h;split at h
 ·rename_i hz;have:l.os=[]:=by simpa using hz
  cases h;refine⟨this,?_⟩;split<;>exact this
 ·simp at h
theorem CP {live:List (Int×Bk)}{x:Int}(b:Bk)(h:bU live x=none)(k y:Int):mC (dA live x b) k y=mC live k y+(if b.2.2.1=k then[x].count y else 0):=by
 have a:live.any (λe=>e.1==x)=false:=by
  rw[mB];intro e he hx;unfold bU at h;rw[sj,ox]at h;exact h e he hx
 unfold dA;rw[a,zB aA];unfold mC;rw[List.countP_append]
 congr 1
 rw[xk,List.countP_nil,zH];by_cases h1:b.2.2.1=k
 ·by_cases h2:x=y
  ·subst h2;simp[h1]
  ·simp[h1,h2]
 ·simp[h1]
theorem yZ {live:List (Int×Bk)}{x:Int}{b:Bk}(h:bU live x=none){e:Int×Bk}:e∈dA live x b↔e∈live\/e=(x,b):=by
 have a:live.any (λe=>e.1==x)=false:=by
  rw[mB];intro e he hx;unfold bU at h;rw[sj,ox]at h;exact h e he hx
 unfold dA;rw[a,zB aA,zM,zN]
theorem AK {live:List (Int×Bk)}{x:Int}{e:Int×Bk}:e∈cO live x↔e∈live/\e.1≠x:=by
 unfold cO;rw[zL];simp
theorem Bo:∀{live:List (Int×Bk)} {x:Int} {b:Bk},(live.map (·.1)).Nodup->bU live x=some b->∀k y,mC live k y=mC (cO live x) k y+(if b.2.2.1=k then[x].count y else 0)
 | [],x,b,_,h,_,_=>by simp[bU]at h
 | e::l,x,b,hn,h,k,y=>by
  rw[zR,zr]at hn;by_cases he:e.1=x
  ·have hb:e.2=b:=by
    unfold bU at h;rw[List.find?_cons_of_pos (by simpa using he)]at h;simpa using h
   have hd:cO (e::l) x=l:=by
    unfold cO;rw[wu (by simpa using he),qv];intro a ha;have:a.1≠x:=λi=>hn.1 (zE.2 ⟨a,ha,i.trans he.symm⟩);simpa using this
   rw[hd];unfold mC;rw[xk,hb,he]
   congr 1
   by_cases h1:b.2.2.1=k
   ·by_cases h2:x=y
    ·subst h2;simp[h1]
    ·simp[h1,h2]
   ·simp[h1]
  ·have g:bU l x=some b:=by
    unfold bU at h ⊢
    rwa [List.find?_cons_of_neg (by simpa using he)]at h
   have d:=Bo hn.2 g k y;have hd:cO (e::l) x=e::cO l x:=by
    unfold cO;rw[vp (by simpa using he)]
   rw[hd];unfold mC at d ⊢;rw[xk,xk,d];omega
theorem EI {live:List (Int×Bk)}{e:Int×Bk}(h:e∈live):1<=mC live e.2.2.2.1 e.1:=by
 unfold mC;exact List.countP_pos_iff.2 ⟨e,h,by simp⟩
structure jH (s s':Sp):Prop where
 l:s'.st.length=s.st.length
 z:∀p,gf s'.st p=0↔gf s.st p=0
 w:s'.wd=s.wd
def iz (m:Nat)(g:Th):Prop:=match g.ph with
 | none=>g.bQ=[]
 | some (.take k)=>g.bQ=[]/\k<m
 | some (.cJ k w)=>g.bQ=[]/\k<m/\(g.li k).os=[]/\1<=w/\w<=32
 | some (.cL k w)=>g.bQ=[]/\k<m/\(g.li k).os=[]/\1<=w/\w<=32
 | some (.grow k w)=>g.bQ=[]/\k<m/\(g.li k).os=[]/\1<=w/\w<=32
 | some .fill=>∃k x xs,g.bQ=[(k,x::xs)]/\k<m/\(g.li k).os=[]/\xs.length<=128
 | some (.eP n)=>g.bQ=[]/\1<=n/\n<=64
 | some (.find x)=>g.bQ=[]/\iN x
 | some (.put k x)=>g.bQ=[(k,[x])]/\k<m
 | some .back=>g.bQ≠[]
 | some (.dH _ _)=>g.bQ=[]
 | some .drain=>g.bQ=[]
structure uX (m:Nat) (g:Th):Prop where
 ll:g.ls.length=m
 lo:∀l∈g.ls,fP l/\l.os.length<=128
 hb:∀b∈g.bQ,b.1<m/\b.2≠[]/\b.2.length<=256
 hl:g.bQ.length<=41
 ph:iz m g
def Lv (held:List Pc)(e:Int×Bk):Prop:=e.2.1=e.1/\∃p∈held,p.eU=false/\p.cls=e.2.2.2.1/\(p.addr:Int)=e.1/\e.2.2.1=(p.size:Int)/\e.2.2.2.2=(p.k:Int)
def Gv (held:List Pc)(s a:Int):Prop:=∃p∈held,p.eU=false/\p.cls = -1/\(p.addr:Int)=s*256/\a=(p.k:Int)
structure HI (H:Hw) (held:List Pc) (s0:Sp):Prop where
 wi:WI ⟨H.tb,s0,H.bZ,held⟩
 nf:jH s0 H.sp
 cn:∀k x,rU H k x=lF held k x
 lk:(H.live.map (·.1)).Nodup
 lv:∀e∈H.live,Lv held e
 gv:∀g∈H.bR,∀s a,g.ph=some (.dH s a)->Gv held s a
 th:∀g∈H.bR,uX H.tb.length g
 ok:∀c∈H.tb,c.ok
 a1:1<=H.bZ.length
 sl:H.sp.st.length=H.cf.aG
variable {H:Hw}{held:List Pc}{s0:Sp}{t k:Nat}{g:Th}{A:AR}
theorem jH.refl (s:Sp):jH s s:=⟨rfl,λ_=>Iff.rfl,rfl⟩
theorem HI.apart (h:HI H held s0){p q:Pc}(hp:p∈held)(hq:q∈held){x:Nat}(p1:p.addr<=x)(p2:x<p.addr+p.size)(q1:q.addr<=x)(q2:x<q.addr+q.size):p=q:=h.wi.apart hp hq p1 p2 q1 q2
theorem WI.same {W:Wd}(h:WI W){p q:Pc}(hp:p∈W.held)(hq:q∈W.held)(e:p.addr=q.addr):p=q:=by
 have a:=(h.size_pos hp).1;have b:=(h.size_pos hq).1;exact h.apart hp hq (x:=p.addr) (zD _) O O O
theorem WI.um {W:Wd}(h:WI W){p:Pc}(hp:p∈W.held){k x:Int}(hu:Um W.held k x)(e:(p.addr:Int)=x):p.eU=false/\p.cls=k:=by
 obtain⟨q,a,d,b,g⟩:=hu;obtain rfl:=h.same hp a O;exact⟨d,b⟩
theorem HI.ns (h:HI H held s0){e:Int×Bk}(he:e∈H.live):Um held e.2.2.2.1 e.1:=by
 obtain⟨_,p,b,g,d,a,_⟩:=h.lv e he;exact⟨p,b,g,d,a⟩
theorem HI.oP (h:HI H held s0){g:Th}(hg:g∈H.bR)(k x:Int):gU g k x<=lF held k x:=by
 rw[←h.cn];unfold rU;have:=Bj (λg=>gU g k x) hg;omega
theorem HI.rp (h:HI H held s0){g:Th}(hg:g∈H.bR){k x:Int}(hc:1<=gU g k x):Um held k x:=Bw (kx hc (h.oP hg k x))
theorem HI.lR (h:HI H held s0){g:Th}(hg:g∈H.bR){k x:Int}(hc:1<=gU g k x):bU H.live x=none:=by
 cases hm:bU H.live x with
 | none=>rfl
 | some b=>
  have i:=ZD hm;have r:=h.rp hg hc;obtain⟨q,p,y,w,j⟩:=h.ns i;have s:k=b.2.2.1:=by
   have:=(h.wi.um (W:=⟨H.tb,s0,H.bZ,held⟩) p r j).2;exact this.symm.trans w
  have u:=EI i;have d:=h.cn k x;have m:=IQ held k x;have a:=Bj (λg=>gU g k x) hg;simp only at u a;unfold rU at d;rw[s]at d m a hc;omega
theorem HI.tD (h:HI H held s0){x:Int}(hn:∀k,¬Um held k x):bU H.live x=none:=by
 cases hm:bU H.live x with
 | none=>rfl
 | some b=>exact(hn _ (h.ns (ZD hm))).elim
theorem HI.fB (h:HI H held s0)(hg:H.bR[t]?=some g){g':Th}{live':List (Int×Bk)}{s0' sp':Sp}{ars':List AR}{held':List Pc}(wi:WI ⟨H.tb,s0',ars',held'⟩)(nf:jH s0' sp')(hsl:sp'.st.length=H.sp.st.length)(hl:ars'.length=H.bZ.length)
 (sub:∀p∈held',p.eU=false->p∈held\/∀k,¬Um held k (p.addr:Int))
 (cn:∀k x,mC live' k x+gU g' k x+lF held k x=mC H.live k x+gU g k x+lF held' k x)
 (lk:(live'.map (·.1)).Nodup) (lv:∀e∈live',e∈H.live\/Lv held' e) (gv:∀s a,g'.ph=some (.dH s a)->Gv held' s a) (th:uX H.tb.length g') :
 HI {H with live:=live',sp:=sp',bZ:=ars',bR:=H.bR.set t g'} held' s0':=by
 have r:∀k x,rU {H with live:=live',sp:=sp',bZ:=ars',bR:=H.bR.set t g'} k x=lF held' k x:=λk x=>by
  have d:=h.cn k x;have u:=cn k x;have b:=LA (λg=>gU g k x) g' hg;unfold rU at d ⊢;simp only at b ⊢;omega
 have G:=(cY.1 hg).1;have bS:∀p∈held,p.eU=false->Um held' p.cls (p.addr:Int)->p∈held':=λp m D ⟨q,A,d,u,b⟩=>by
  rcases sub q A d with hs|hs
  ·have:q=p:=h.wi.same (W:=⟨H.tb,s0,H.bZ,held⟩) hs m O;rw[←this];exact A
  ·exact(hs p.cls ⟨p,m,D,rfl,b.symm⟩).elim
 refine⟨wi,nf,r,lk,λe B=>?_,λw i s a m=>?_,λw i=>?_,h.ok,by simp only;rw[hl];exact h.a1,hsl.trans h.sl⟩
 ·rcases lv e B with he'|he'
  ·obtain⟨C,p,m,d,u,b,z⟩:=h.lv e he';refine⟨C,p,bS p m d ?_,d,u,b,z⟩;rw[u,b];apply Bw;rw[←r];have:1<=mC live' e.2.2.2.1 e.1:=EI B;unfold rU;simp only;omega
  ·exact he'
 ·rcases List.mem_iff_getElem?.1 i with⟨j,hj⟩;rcases VS hj with⟨rfl,rfl,_⟩|⟨hne,hj'⟩
  ·exact gv s a m
  ·obtain⟨p,y,d,u,b,z⟩:=h.gv w (zG hj') s a m;refine⟨p,bS p y d ?_,d,u,b,z⟩;rw[u,b];apply Bw;rw[←r];have E:=Bj (λg=>gU g (-1) (s*256)) i;have F:1<=gU w (-1) (s*256):=by unfold gU;rw[m];simp[jK]
   unfold rU;simp only at E ⊢;omega
 ·rcases List.mem_iff_getElem?.1 i with⟨j,hj⟩;rcases VS hj with⟨rfl,rfl,_⟩|⟨hne,hj'⟩
  ·exact th
  ·exact h.th w (zG hj')
theorem HI.kH (h:HI H held s0)(hg:H.bR[t]?=some g){g':Th}{live':List (Int×Bk)}(cn:∀k x,mC live' k x+gU g' k x=mC H.live k x+gU g k x)(lk:(live'.map (·.1)).Nodup)(lv:∀e∈live',e∈H.live\/Lv held e)
 (gv:∀s a,g'.ph=some (.dH s a)->Gv held s a) (th:uX H.tb.length g'):HI {H with live:=live',bR:=H.bR.set t g'} held s0:=
 h.fB hg h.wi h.nf rfl rfl (λp b _=>.inl b) (λk x=>by have:=cn k x;omega) lk lv gv th
theorem Tt {A:AR}{x:Int}:pE A x=true↔0<=x/\A.f x.toNat≠0:=by
 unfold pE AR.f gf;simp
theorem WI.owner {W:Wd}(h:WI W){p:Pc}(hp:p∈W.held){x:Nat}(h1:p.addr<=x)(h2:x<p.addr+p.size):Yg W.bZ (x:Int)=(p.k:Int):=by
 obtain⟨A,b,_⟩:=h.hf p hp;have g:=h.pO hp b h1 h2;have a:=(cY.1 b).1;have own:∀(j:Nat) (B:AR),W.bZ[j]?=some B->(pE B ((x:Int)/256)=true↔j=p.k):=λj B d=>by
  have e:((x:Int)/256).toNat=x/256:=by omega
  rw[Tt,e];constructor
  ·rintro⟨_,hf⟩;exact h.one (x/256) j p.k B A d b hf O
  ·rintro rfl;rw[b]at d;cases d;exact⟨O,O⟩
 unfold Yg;rw[zB O];have hf:W.bZ.findIdx? (λA=>pE A ((x:Int)/256))=some p.k:=by
  rw[nI];refine⟨a,(own p.k _ (cW a)).2 rfl,λj i=>?_⟩;have:=own j W.bZ[j] (cW O);intro hx;have:=this.1 hx;omega
 rw[hf]
theorem HI.owner (h:HI H held s0){p:Pc}(hp:p∈held){x:Nat}(h1:p.addr<=x)(h2:x<p.addr+p.size):Yg H.bZ (x:Int)=(p.k:Int):=h.wi.owner (W:=⟨H.tb,s0,H.bZ,held⟩) hp h1 h2
theorem HI.oU (h:HI H held s0){p:Pc}(hp:p∈held):Yg H.bZ (p.addr:Int)=(p.k:Int):=h.owner hp (zD _) (by have:=(h.wi.size_pos (W:=⟨H.tb,s0,H.bZ,held⟩) hp).1;omega)
theorem HI.i63 (h:HI H held s0){k x:Int}(hu:Um held k x):iN x/\0<=x/\0<=Yg H.bZ x:=by
 obtain⟨p,a,_,_,rfl⟩:=hu;have:=(h.wi.jU (W:=⟨H.tb,s0,H.bZ,held⟩) a).1;refine⟨by unfold iN;omega,O,?_⟩;rw[h.oU a];omega
end Go.Ar
namespace Go.Ar
open Go.Vc (bU dA cO)
open Go.Bu (ZE)
structure KS (s s':Sp):Prop where
 l:s'.st.length=s.st.length
 k:∀p,gf s.st p≠0->gf s'.st p≠0/\∀w,w/32=p->s'.wd w=s.wd w
theorem KS.refl (s:Sp):KS s s:=⟨rfl,λp a=>⟨a,λ_ _=>rfl⟩⟩
theorem KS.trans {a b c:Sp}(h:KS a b)(k:KS b c):KS a c:=⟨k.l.trans h.l,λp d=>⟨(k.k p (h.k p d).1).1,λw g=>((k.k p (h.k p d).1).2 w g).trans ((h.k p d).2 w g)⟩⟩
variable {s s' sp sp' s0 s0':Sp}{A B:AR}{k:Nat}
theorem jH.mz (h:jH s s'):s'.st.map (λx=>decide (x=0))=s.st.map λx=>decide (x=0):=by
 refine zt λi=>?_;rw[zZ,zZ];have a:=h.z i;unfold gf at a;rw[zQ,zQ]at a;by_cases hi:i<s.st.length
 ·have b:i<s'.st.length:=by rw[h.l];exact hi
  rw[cW hi,cW b]at a ⊢;simp only[qG]at a;simp[a]
 ·have d:=h.l;rw[zX O,zX O]
theorem LS {l l':List Nat}(h:l'.map (λx=>decide (x=0))=l.map λx=>decide (x=0))(a m:Nat)(f:Bool->Bool):((l'.drop a).take m).any (λx=>f (decide (x=0)))=((l.drop a).take m).any λx=>f (decide (x=0)):=by
 have e:∀l:List Nat,((l.drop a).take m).any (λx=>f (decide (x=0)))=(((l.map λx=>decide (x=0)).drop a).take m).any f:=λl=>by
  rw[←List.map_drop,←List.map_take,List.any_map];rfl
 rw[e,e,h]
theorem jH.fH (h:jH s s')(a m:Int):fH s' a m=fH s a m:=by
 unfold Go.Ar.fH;rw[h.l];have:=LS h.mz a.toNat m.toNat (λb=>!b);have e:∀l:List Nat,l.any (λx=>x != 0)=l.any λx=>!decide (x=0):=λl=>by
  refine congrArg l.any (funext λx=>?_);cases x<;>rfl
 rw[e,e,this]
theorem jH.set (h:jH s s'){a m v:Nat}(hl:a+m<=s.st.length):jH (s.set a m v) (s'.set a m v):=by
 refine⟨by simp[Sp.set,Vs,h.l],λp=>?_,?_⟩
 ·show gf (gF s'.st a (a+m) v) p=0↔gf (gF s.st a (a+m) v) p=0;rw[vQ (by rw[h.l];exact hl),vQ hl];split
  ·exact Iff.rfl
  ·exact h.z p
 ·show(λw=>if a*32<=w/\w<(a+m)*32 then 0 else s'.wd w)=_
  rw[h.w];rfl
theorem η {n:Nat}{a m:Int}(h:ZE n a m=true):a.toNat+m.toNat<=n:=by
 by_cases h0:0<=a/\0<=m
 ·obtain⟨a,rfl⟩:=zc h0.1;obtain⟨m,rfl⟩:=zc h0.2;rw[dF,dF];exact(UO.1 h).2
 ·exfalso;unfold ZE at h;simp at h;omega
theorem jH.gg (h:jH s s')(a m:Int):jH (gg s a m) (gg s' a m):=by
 unfold Go.Ar.gg;rw[h.fH];split
 ·rename_i h0;refine h.set ?_;unfold Go.Ar.fH at h0;split at h0
  ·rename_i hr;exact η hr
  ·simp at h0
 ·exact h
theorem Jm (s:Sp)(a m:Nat):KS s (gg s (a:Int) (m:Int)):=by
 by_cases h:fH s (a:Int) (m:Int)=0
 ·have r:=C3 h;obtain⟨j,u,i,_⟩:=Ir h;refine⟨j,λp d=>?_⟩;have b:¬(a<=p/\p<a+m):=λg=>d (r.2.2 p g.1 g.2);exact⟨by rw[u,zB b];exact d,λw x=>i w O⟩
 ·unfold gg;rw[zB h];exact KS.refl s
theorem jH.dB (h:jH s s')(size:Nat):dB s' size=dB s size:=by
 unfold Go.Ar.dB;rw[h.l]
 congr 1
 funext x
 rw[h.fH]
theorem jH.dC (h:jH s s')(A:AR)(m a no:Nat):(dC A s' m a no).1=(dC A s m a no).1/\(dC A s' m a no).2.1=(dC A s m a no).2.1/\jH (dC A s m a no).2.2 (dC A s' m a no).2.2/\KS s' (dC A s' m a no).2.2:=by
 unfold Go.Ar.dC;split
 ·exact⟨rfl,rfl,h,KS.refl _⟩
 ·unfold Hk;rw[h.dB];cases hg:Go.Ar.dB s (KD (max m a))with
  | none=>exact⟨rfl,rfl,h,KS.refl _⟩
  | some x=>
   simp only;split
   ·exact⟨rfl,rfl,h.gg _ _,Jm _ _ _⟩
   ·exact⟨rfl,rfl,h.gg _ _,Jm _ _ _⟩
theorem jH.cQ (h:jH s s')(A:AR)(k:Int):(cQ A s' k).1=(cQ A s k).1/\Vw A s' k=Vw A s k/\jH (cQ A s k).2 (cQ A s' k).2/\KS s' (cQ A s' k).2:=by
 unfold Go.Ar.cQ Vw;split
 ·split
  ·rename_i c ss _ _;obtain⟨b,g,a,d⟩:=h.dC A c.aG 1 (k.toNat+1);cases e1:Go.Ar.dC A s c.aG 1 (k.toNat+1)with
   | mk o1 r1=>cases e2:Go.Ar.dC A s' c.aG 1 (k.toNat+1)with
    | mk o2 r2=>
     obtain⟨m,j⟩:=r1;obtain⟨p,i⟩:=r2;rw[e1,e2]at b g a;rw[e2]at d;simp only at b g a d;subst b;subst g;cases o2<;>exact⟨rfl,rfl,a,d⟩
  ·exact⟨rfl,rfl,h,KS.refl _⟩
 ·exact⟨rfl,rfl,h,KS.refl _⟩
theorem jH.cC (h:jH s s')(A:AR)(m a:Int):(cC A s' m a).1=(cC A s m a).1/\Q6 A s' m a=Q6 A s m a/\QD A s' m a=QD A s m a/\jH (cC A s m a).2 (cC A s' m a).2/\KS s' (cC A s' m a).2:=by
 unfold Go.Ar.cC Q6 QD;split
 ·obtain⟨d,i,b,g⟩:=h.dC A m.toNat a.toNat 41;cases e1:Go.Ar.dC A s m.toNat a.toNat 41 with
  | mk o1 r1=>cases e2:Go.Ar.dC A s' m.toNat a.toNat 41 with
   | mk o2 r2=>
    obtain⟨r,p⟩:=r1;obtain⟨u,j⟩:=r2;rw[e1,e2]at d i b;rw[e2]at g;simp only at d i b g;subst d;subst i;cases o2<;>exact⟨rfl,rfl,rfl,b,g⟩
 ·exact⟨rfl,rfl,rfl,h,KS.refl _⟩
variable {W:Wd}
theorem Ο (h:WI W){cl:Int}{l:List Int}(ho:jq W.held k cl l=true)(c x:Int):Um (W.held.filter λp=>!eD k cl l p) c x↔Um W.held c x/\¬(c=cl/\x∈l):=by
 constructor
 ·rintro⟨p,hp,h1,h2,h3⟩;obtain⟨a,b⟩:=zL.1 hp;refine⟨⟨p,a,h1,h2,h3⟩,?_⟩;rintro⟨rfl,d⟩;obtain⟨q,j,g⟩:=(Vl.1 ho).1 x d;obtain⟨r,w,s,u⟩:=Vr.1 g;obtain rfl:=h.same (p:=p) (q:=q) a j O;have:eD k c l p=true:=QA.2 ⟨r,h2,by rw[h3];exact d⟩;rw[this]at b;cases b
 ·rintro⟨⟨p,hp,h1,h2,h3⟩,b⟩;refine⟨p,zL.2 ⟨hp,?_⟩,h1,h2,h3⟩;have:eD k cl l p=false:=nL.2 λd=>by
   obtain⟨_,m,i⟩:=QA.1 d;exact b ⟨h2.symm.trans m,by rw[←h3];exact i⟩
  rw[this];rfl
theorem Md {held:List Pc}{cl:Int}{l:List Int}(ho:jq held k cl l=true):∀x∈l,Um held cl x:=λx i=>by
 obtain⟨q,b,a⟩:=(Vl.1 ho).1 x i;obtain⟨m,j,d,g⟩:=Vr.1 a;exact⟨q,b,g,j,d⟩
theorem OW (h:WI W){cl:Int}{l:List Int}(ho:jq W.held k cl l=true)(c x:Int):Um (GL W.held k cl l true) c x↔Um W.held c x/\¬(c=cl/\x∈l):=by
 constructor
 ·rintro⟨p,hp,h1,h2,h3⟩;obtain⟨q,b,rfl⟩:=Kg.1 hp;by_cases hof:eD k cl l q=true
  ·rw[zC hof]at h1;cases h1
  ·rw[zB hof]at h1 h2 h3;refine⟨⟨q,b,h1,h2,h3⟩,?_⟩;rintro⟨rfl,hx⟩;obtain⟨r,i,a⟩:=(Vl.1 ho).1 x hx;obtain⟨j,u,m,s⟩:=Vr.1 a;obtain rfl:=h.same b i O;exact hof (QA.2 ⟨j,h2,by rw[h3];exact hx⟩)
 ·rintro⟨⟨p,hp,h1,h2,h3⟩,hn⟩;refine⟨p,Kg.2 ⟨p,hp,?_⟩,h1,h2,h3⟩;rw[zB];intro hx;obtain⟨_,g,d⟩:=QA.1 hx;exact hn ⟨h2.symm.trans g,by rw[←h3];exact d⟩
theorem Se {held:List Pc}{cl:Int}{l:List Int}:∀p∈GL held k cl l true,p.eU=false->p∈held:=λp b a=>by
 obtain⟨q,d,rfl⟩:=Kg.1 b;by_cases hof:eD k cl l q=true
 ·rw[zC hof]at a;cases a
 ·rw[zB hof];exact d
theorem LZ (h:WI W)(hk:W.bZ[k]?=some A){j:Nat}:(∀x∈YQ A (j:Int),∀c,¬Um W.held c x)/\(YQ A (j:Int)).Nodup/\(∀c x,Um (GL W.held k j (YQ A (j:Int)) false) c x↔Um W.held c x\/(c=j/\x∈YQ A (j:Int))) ∧
 (∀p∈GL W.held k j (YQ A (j:Int)) false,p.eU=false->p∈W.held\/∀c,¬Um W.held c (p.addr:Int)):=by
 obtain⟨o,e1,e2,y,J,H⟩:=LG (h.ga k A hk) (j:Int);rw[dF]at e2;have u:∀x∈YQ A (j:Int),∃q∈W.held,q.k=k/\q.cls=j/\(q.addr:Int)=x/\q.eU=true:=λx b=>by
  have i:=e2 x b;obtain⟨t,ht,g⟩:=i;have m:j<A.tb.length:=by rw[←(h.ga k A hk).lt];exact(cY.1 ht).1
  obtain⟨c,E,G,s,D⟩:=(h.ga k A hk).cl m;have r:fS A j x:=(VM s).2 ((h.ga k A hk).mu j c E t s ht x g);obtain⟨q,a,q1,q2,q3⟩:=h.ht k A hk j x r;obtain⟨_,_,_,_,C⟩:=h.cls a q2 (by rw[q1];exact hk);exact⟨q,a,q1,q2,q3,C.2 (by rw[q3];exact⟨t,ht,g⟩)⟩
 have new:∀x∈YQ A (j:Int),∀c,¬Um W.held c x:=λx b c B=>by
  obtain⟨q,a,_,_,q3,q4⟩:=u x b;have:=(h.um a B q3).1;rw[q4]at this;cases this
 refine⟨new,y,λc x=>⟨?_,?_⟩,λp d F=>?_⟩
 ·rintro⟨p,d,h1,h2,h3⟩;obtain⟨q,a,rfl⟩:=Kg.1 d;by_cases hof:eD k (j:Int) (YQ A (j:Int)) q=true
  ·rw[zC hof]at h2 h3;obtain⟨_,z,w⟩:=QA.1 hof;exact .inr ⟨h2.symm.trans z,by rw[←h3];exact w⟩
  ·rw[zB hof]at h1 h2 h3;exact .inl ⟨q,a,h1,h2,h3⟩
 ·rintro(⟨p,d,h1,h2,h3⟩|⟨rfl,b⟩)
  ·refine⟨p,Kg.2 ⟨p,d,?_⟩,h1,h2,h3⟩;split
   ·rw[←h1]
   ·rfl
  ·obtain⟨q,a,q1,q2,q3,q4⟩:=u x b;refine⟨{q with eU:=false},Kg.2 ⟨q,a,?_⟩,rfl,q2,q3⟩;rw[zC (QA.2 ⟨q1,q2,by rw[q3];exact b⟩)]
 ·obtain⟨q,a,rfl⟩:=Kg.1 d;by_cases hof:eD k (j:Int) (YQ A (j:Int)) q=true
  ·rw[zC hof];exact .inr (new _ (QA.1 hof).2.2)
  ·rw[zB hof];exact .inl a
theorem CQ {tb:List cA}{bZ:List AR}{sp:Sp}{held new:List Pc}(h:WI ⟨tb,sp,bZ,held++new⟩):∀p∈new,∀c,¬Um held c (p.addr:Int):=by
 rintro p d c ⟨q,b,_,_,g⟩;have e:=h.same (p:=p) (q:=q) (oh _ d) (kP _ b) O;have a:=h.hk;simp only[zm]at a;rw[nk]at a;exact a.2.2 q.key (zE.2 ⟨q,b,rfl⟩) p.key (zE.2 ⟨p,d,rfl⟩) (by rw[e])
theorem FY {held new:List Pc}{cl:Int}{l:List Int}(h1:∀p∈new,p.eU=false/\p.cls=cl/\(p.addr:Int)∈l)(h2:∀x∈l,∃p∈new,(p.addr:Int)=x)(c x:Int):Um (held++new) c x↔Um held c x\/(c=cl/\x∈l):=by
 constructor
 ·rintro⟨p,b,a1,a2,a3⟩;rcases zM.1 b with b|b
  ·exact .inl ⟨p,b,a1,a2,a3⟩
  ·obtain⟨_,d,g⟩:=h1 p b;exact .inr ⟨a2.symm.trans d,by rw[←a3];exact g⟩
 ·rintro(⟨p,b,a⟩|⟨rfl,hx⟩)
  ·exact⟨p,kP _ b,a⟩
  ·obtain⟨p,b,e⟩:=h2 x hx;exact⟨p,oh _ b,(h1 p b).1,(h1 p b).2.1,e⟩
theorem EC {tb:List cA}{bZ:List AR}{sp:Sp}{held new:List Pc}(h:WI ⟨tb,sp,bZ,held++new⟩):∀p∈held++new,p.eU=false->p∈held\/∀c,¬Um held c (p.addr:Int):=λp a _=>by
 rcases zM.1 a with a|a
 ·exact .inl a
 ·exact .inr (CQ h p a)
theorem VD {ss:List cH}:∀{i:Nat},ZC ss i=none->∀k,k<i->∀s,ss[k]?=some s->¬s.many<s.tk.length
 | 0,_,k,hk,_,_=>by omega
 | i+1,h,k,hk,s,hs=>by
  unfold ZC at h;by_cases hki:k=i
  ·subst hki;rw[hs]at h;simp only at h;intro hlt;rw[zC hlt]at h;split at h
   ·split at h
    ·split at h<;>cases h
    ·cases h
   ·cases h
  ·cases hi:ss[i]? with
   | none=>
    rw[hi]at h;exact VD h k O s hs
   | some x=>
    rw[hi]at h;simp only at h;split at h
    ·split at h
     ·split at h
      ·split at h<;>cases h
      ·cases h
     ·exact VD (by assumption) k O s hs
    ·exact VD h k O s hs
theorem Mz (h:GA A)(hw:Ow A sp){j:Nat}(hE:Vw A sp (j:Int)=0){w:Nat}(h1:1<=w):YA (cQ A sp (j:Int)).1 (j:Int) (w:Int)≠[]:=by
 rcases Io h hw (j:Int)with⟨_,hn,_⟩|⟨j',c,ss,x,A1,sp1,hj,hk,hk1,_,e,hst,r1,r2,r3,_,hd,hS⟩
 ·exact(hn hE).elim
 ·obtain rfl:j=j':=by omega
  have a:Cl (cQ A sp (j:Int)).1 j c (iu c ss x):=by
   rw[e];have g:Cl (dT A1 x c.aG (j+1)) j c ss:=hk1;exact Hv g _
  have B:=hS.ga.cG j c _ a;have b:(⟨x,List.replicate c.n false⟩:cH)∈iu c ss x:=VV.2 (.inl rfl);have p:(cQ A sp (j:Int)).1.ck (j:Int)=true:=H6.2 ⟨j,rfl,a.lt⟩;unfold YA Kb V0;rw[p,zC rfl,zB (show ¬((w:Int)<0) by omega),zC rfl,dF,dF,a.1,a.2];simp only;obtain⟨w,rfl⟩:∃v,w=v+1:=⟨w-1,O⟩;cases ho:jg c (iu c ss x)with
  | some r=>
   obtain⟨y,D⟩:=r;rw[GW ho];simp
  | none=>
   exfalso;unfold jg iS at ho;obtain⟨l,z⟩:=zP b;have d:=(cY.1 z).1;have u:(⟨x,List.replicate c.n false⟩:cH).many<(⟨x,List.replicate c.n false⟩:cH).tk.length:=by
    have:=B.ok.sA;simp[cH.many,yC];omega
   cases hb:ZC (iu c ss x) (iu c ss x).length with
   | none=>exact VD hb l d _ z u
   | some i=>
    rw[hb]at ho;obtain⟨_,s,C,m⟩:=Ko hb;obtain⟨r,E,_⟩:=AW m;simp only[C,E]at ho;cases ho
end Go.Ar
namespace Go.Ar
open Go.Vc (bU dA cO)
variable {H:Hw}{held:List Pc}{s0:Sp}{t k:Nat}{g:Th}{A:AR}{c:cA}
theorem QC {p:Ph}{H1:Hw}{g1:Th}{nx:Option Ph}{a e:Int}(ht:t<H.bR.length)(hs:WG H t p=({H1 with bR:=H.bR.set t g1},nx,a,e)):Kd H t p = {H1 with bR:=H.bR.set t {g1 with ph:=nx}}:=by
 unfold Kd;rw[hs];show Hw.eC _ t _=_;rw[ZW (g:=g1) (by simp[ht])];simp only[nC]
structure iH (H:Hw) (t:Nat) (p:Ph):Prop where
 ok:vL H t p
 hi:∃held s0,HI (Kd H t p) held s0
 ks:KS H.sp (Kd H t p).sp
theorem iH.mk' {p:Ph}(hg:H.bR[t]?=some g)(hl:g.bQ.length<=41)(h1:vG H t p){H':Hw}{held':List Pc}{s0':Sp}(e:Kd H t p=H')(h2:HI H' held' s0')(h3:KS H.sp H'.sp):iH H t p:=
 ⟨⟨h1,λb a=>by rw[hg]at a;cases a;omega⟩,⟨held',s0',by rw[e];exact h2⟩,by rw[e];exact h3⟩
def Rq (tb:List cA)(g:Th):Ph->Int->Int->Prop
 | .take k,cl,sz=>cl=k/\∃c,tb[k]?=some c/\sz=c.size
 | .cJ k _,cl,sz=>cl=k/\∃c,tb[k]?=some c/\sz=c.size
 | .cL k _,cl,sz=>cl=k/\∃c,tb[k]?=some c/\sz=c.size
 | .grow k _,cl,sz=>cl=k/\∃c,tb[k]?=some c/\sz=c.size
 | .fill,cl,sz=>∃k xs r c,g.bQ=(k,xs)::r/\cl=k/\tb[k]?=some c/\sz=c.size
 | .eP m,cl,sz=>cl = -1/\sz=((m*256:Nat):Int)
 | _,_,_=>False
def pn (H:Hw)(t:Nat):Ph->Nat
 | .take _=>5
 | .cJ _ _=>4
 | .cL k w=>if YA (H.eN t) (k:Int) (w:Int)=[]then 3 else 1
 | .grow _ _=>2
 | _=>0
def uE (H:Hw)(t:Nat)(p:Ph)(cl sz:Int):Prop:=
 (∃p' g',(WG H t p).2.1=some p'/\(Kd H t p).live=H.live/\(Kd H t p).bR[t]?=some g'/\Rq H.tb g' p' cl sz/\pn (Kd H t p) t p'<pn H t p) ∨
 ((WG H t p).2.1=none/\(WG H t p).2.2.2≠0/\(WG H t p).2.2.1=0/\(Kd H t p).live=H.live) ∨
 ((WG H t p).2.1=none/\(WG H t p).2.2.2=0/\bU H.live (WG H t p).2.2.1=none/\(Kd H t p).live=dA H.live (WG H t p).2.2.1 ((WG H t p).2.2.1,sz,cl,Yg (Kd H t p).bZ (WG H t p).2.2.1))
theorem HI.mem (h:HI H held s0)(hg:H.bR[t]?=some g):g∈H.bR:=zG hg
theorem HI.jV (h:HI H held s0)(t:Nat):H.own t<H.bZ.length:=wk _ (by have:=h.a1;omega)
theorem HI.eN (h:HI H held s0)(t:Nat):H.bZ[H.own t]?=some (H.eN t):=by
 have a:=cW (h.jV t);rw[B4 a];exact a
theorem HI.rH (h:HI H held s0):H.tb.length<=40:=by
 have a:=h.eN 0;have:=(h.wi.ga _ _ a).tb;rw[h.wi.tb _ _ a]at this;exact this
theorem HI.cls (h:HI H held s0)(hk:k<H.tb.length):∃c,H.tb[k]?=some c/\c.ok:=⟨H.tb[k],cW hk,h.ok _ (kv hk)⟩
theorem uX.li {m:Nat}(h:uX m g)(hk:k<m):∃l,g.ls[k]?=some l/\g.li k=l/\fP l/\l.os.length<=128:=by
 have a:=cW (l:=g.ls) (i:=k) (by rw[h.ll];exact hk);have:=h.lo _ (kv (by rw[h.ll];exact hk));exact⟨_,a,AU a,this.1,this.2⟩
theorem uX.iv {m:Nat}(h:uX m g){l':Li}(h1:fP l')(h2:l'.os.length<=128):(g.ls.set k l').length=m/\∀l∈g.ls.set k l',fP l/\l.os.length<=128:=by
 refine⟨by rw[oQ];exact h.ll,λl a=>?_⟩;rcases Am a with a|rfl
 ·exact h.lo l a
 ·exact⟨h1,h2⟩
theorem MU {ls:List Li}{l':Li}{hs:List Bt}{ph:Option Ph}(hk:k<ls.length):(⟨ls.set k l',hs,ph⟩:Th).li k=l':=by
 unfold Th.li;rw[I0 l' k hk,zC rfl]
theorem HI.ya (h:HI H held s0){y:Int}(hu:Um held (k:Int) y)(hc:H.tb[k]?=some c):Lv held (y,(y,(c.size:Int),(k:Int),Yg H.bZ y)):=by
 obtain⟨p,d,m,g,rfl⟩:=hu;obtain⟨A,i,_⟩:=h.wi.hf p d;obtain⟨c',b,j,_⟩:=h.wi.cls d g i;rw[h.wi.tb _ _ i]at b;have a:H.tb[k]?=some c':=b;rw[hc]at a;cases a;exact⟨rfl,p,d,m,g,rfl,by rw[j],by rw[h.oU d]⟩
theorem AS {ls:List Li}{l:Li}(hl:ls[k]?=some l)(l':Li)(k' x:Int):mg (ls.set k l') k' x+(if(k:Int)=k' then l.os.count x else 0)=mg ls k' x+(if(k:Int)=k' then l'.os.count x else 0):=by
 have:=WmL l' (cY.1 hl).1 k' x;rw[zQ,hl]at this;exact this
theorem WmW {ls:List Li}{l:Li}(hl:ls[k]?=some l)(x:Int):mg ls (k:Int) x=l.os.count x:=by
 rw[wV,zQ,hl];rfl
theorem Wml (h:HI H held s0)(hg:H.bR[t]?=some g)(hph:g.ph=some (.take k)){cl sz:Int}(hr:Rq H.tb g (.take k) cl sz):iH H t (.take k)/\uE H t (.take k) cl sz:=by
 have K:=(cY.1 hg).1;have b:=h.th g (h.mem hg);obtain⟨P,z⟩:g.bQ=[]/\k<H.tb.length:=by have:=b.ph;unfold iz at this;rw[hph]at this;exact this
 obtain⟨rfl,c,m,rfl⟩:=hr;have B:=h.ok c (zG m);obtain⟨l,hl,i,G,Q⟩:=b.li z;have d:=ER B G;have j:=G7 hg;cases hT:KK c l with
 | mk o l'=>
  rw[hT]at d;cases o with
  | some y=>
   have A:WG H t (.take k)=({{H with live:=dA H.live y (y,(c.size:Int),(k:Int),Yg H.bZ y)}with bR:=H.bR.set t {g with ls:=g.ls.set k l'}},none,y,0):=by
    simp only[WG,j,UF m,i,hT,V6,ZW hg,Th.iv]
   have e:=QC K A;have u:1<=gU g (k:Int) y:=by
    have:=Fm hT y;rw[Ed]at this;unfold gU;rw[WmW hl];omega
   have N:=h.rp (h.mem hg) u;have F:=h.lR (h.mem hg) u;have p:l'.os.length<=128:=by
    have:l'.os.length<=l.os.length:=by
     unfold KK at hT;split at hT
     ·cases hT
     ·cases hT;simp
    omega
   obtain⟨ll,J⟩:=b.iv (k:=k) d p;have hi:=h.kH hg (g':={g with ls:=g.ls.set k l',ph:=none}) (live':=dA H.live y (y,(c.size:Int),(k:Int),Yg H.bZ y)) (λD x=>by
    rw[CP _ F];have E:=AS hl l' D x;have V:=Fm hT x;unfold gU;rw[hph];simp only[jK];by_cases hkk:(k:Int)=D
    ·simp only[hkk,zT]at E ⊢;omega
    ·simp only[hkk,jR]at E ⊢;omega)
    (Go.Vc.gV h.lk) (λU r=>by
     rcases(yZ F).1 r with r|rfl
     ·exact .inl r
     ·exact .inr (h.ya N m))
    (λs a L=>by cases L) ⟨ll,J,b.hb,b.hl,by unfold iz;exact P⟩
   refine⟨iH.mk' hg b.hl ⟨z,λR M C=>?_⟩ e hi (KS.refl _),.inr (.inr ?_)⟩
   ·rw[j,i,UF m,hT]at C;cases C;exact(h.i63 N).1
   ·rw[e,A];exact⟨rfl,rfl,F,rfl⟩
  | none=>
   have A:WG H t (.take k)=({H with bR:=H.bR.set t {g with ls:=g.ls.set k l'}},some (.cJ k (pz c l')),0,0):=by
    simp only[WG,j,UF m,i,hT,ZW hg,Th.iv]
   have e:=QC K A;obtain⟨o1,o2⟩:=T5 hT;obtain⟨ll,J⟩:=b.iv (k:=k) d (by rw[o2];simp);have w:=d.nJ;have S:1<=pz c l'/\pz c l'<=32:=by
    unfold cA.ok at B;unfold pz;simp only at w;omega
   have hi:=h.kH hg (g':={g with ls:=g.ls.set k l',ph:=some (.cJ k (pz c l'))}) (live':=H.live) (λD x=>by
    have E:=AS hl l' D x;rw[o1,o2]at E;unfold gU;rw[hph];simp only[jK];omega) h.lk (λU r=>.inl r) (λs a L=>by cases L) ⟨ll,J,b.hb,b.hl,by
     unfold iz;exact⟨P,z,by rw[MU (by rw[b.ll];exact z)];exact o2,S⟩⟩
   refine⟨iH.mk' hg b.hl ⟨z,λR M C=>?_⟩ e hi (KS.refl _),.inl ?_⟩
   ·rw[j,i,UF m,hT]at C;cases C
   ·rw[e,A];exact⟨_,_,rfl,rfl,zO K,⟨rfl,c,m,rfl⟩,by simp[pn]⟩
theorem G4 (h:GA A)(h0:QE A (k:Int)=0)(hc:A.tb[k]?=some c):∃x xs,YQ A (k:Int)=x::xs/\xs.length+1=c.batch:=by
 have a:YQ A (k:Int)=(match A.cR[k]? with
  | some t=>t.bs.getLast?.getD []
  | none=>[]):=by unfold YQ;rw[zC h0,dF];rfl
 unfold QE at h0;rw[dF]at h0;split at h0
 ·split at h0
  ·rename_i t ht;split at h0
   ·cases h0
   ·rename_i hb;rw[ht]at a;simp only at a;have p:t.bs.getLast?=some (t.bs.getLast hb):=List.getLast?_eq_some_getLast hb;rw[p]at a;simp only[qG]at a;have:=h.pS k c t hc ht _ (List.getLast_mem hb);rw[←a]at this;have j:=h.cG;cases hx:YQ A (k:Int)with
    | nil=>
     rw[hx]at this;have g:k<A.tb.length:=(cY.1 hc).1;obtain⟨i,m,_,b,_⟩:=h.cl g;have d:i=c:=Option.some.inj (b.1.symm.trans hc);have:=(h.cG k i m b).ok;unfold cA.ok at this;simp at *;subst d;omega
    | cons x xs=>exact⟨x,xs,rfl,by rw[hx]at this;simpa using this⟩
  ·cases h0
 ·cases h0
theorem RL (h:HI H held s0)(hg:H.bR[t]?=some g){w:Nat}(hph:g.ph=some (.cJ k w)){cl sz:Int}(hr:Rq H.tb g (.cJ k w) cl sz):iH H t (.cJ k w)/\uE H t (.cJ k w) cl sz:=by
 have D:=(cY.1 hg).1;have d:=h.th g (h.mem hg);obtain⟨G,B,p,Q⟩:g.bQ=[]/\k<H.tb.length/\(g.li k).os=[]/\1<=w/\w<=32:=by have:=d.ph;unfold iz at this;rw[hph]at this;exact this
 obtain⟨rfl,c,i,rfl⟩:=hr;have F:=h.ok c (zG i);have m:=F;unfold cA.ok at m;have C:=h.eN t;have ga:=h.wi.ga _ _ C;have u:(H.eN t).tb[k]?=some c:=by rw[h.wi.tb _ _ C];exact i
 have L:vG H t (.cJ k w):=⟨B,λA=>by
  obtain⟨x,z,e,_⟩:=G4 ga A u;rw[e];simp⟩
 by_cases hcase:w=c.batch/\QE (H.eN t) (k:Int)=0
 ·obtain⟨rfl,A⟩:=hcase;obtain⟨x,z,K,M⟩:=G4 ga A u;have r:WG H t (.cJ k c.batch)=({H.cE (H.own t) (Z1 (H.eN t) (k:Int))with bR:=H.bR.set t {g with bQ:=[(k,x::z)]}},some .fill,0,0):=by
   simp only[WG,UF i,zT,A,Ks,K];rw[ZW (g:=g) (by exact hg),G];rfl
  have e:=QC (H1:=H.cE (H.own t) (Z1 (H.eN t) (k:Int))) D r;obtain⟨S,U,R,P⟩:=LZ h.wi C (j:=k);have wi:=h.wi.wM C (k:Int);have hi:=h.fB hg (g':={g with bQ:=[(k,x::z)],ph:=some .fill}) (live':=H.live) wi h.nf rfl (by simp[Wd.put]) P (λN y=>by
   rw[Ee U (λy W=>S y W _) R,K];unfold gU;rw[hph,G];simp only[jK,Vp,V7];omega) h.lk (λV E=>.inl E) (λs a J=>by cases J) ⟨d.ll,d.lo,λb hb=>by
    simp only[zN]at hb;subst hb;exact⟨B,by simp,by simp;omega⟩,by simp,by
    unfold iz;exact⟨k,x,z,rfl,B,p,O⟩⟩
  refine⟨iH.mk' hg d.hl L e hi (KS.refl _),.inl ?_⟩;rw[e,r];exact⟨_,_,rfl,rfl,zO D,⟨k,x::z,[],c,rfl,rfl,i,rfl⟩,by simp[pn]⟩
 ·have r:WG H t (.cJ k w)=({H with bR:=H.bR.set t g},some (.cL k w),0,0):=by
   have:H.bR.set t g=H.bR:=QQ hg;rw[this];simp only[WG,UF i];split
   ·split
    ·exact(hcase ⟨by assumption,by assumption⟩).elim
    ·rfl
   ·rfl
  have e:=QC D r;have hi:=h.kH hg (g':={g with ph:=some (.cL k w)}) (live':=H.live) (λN x=>by
   unfold gU;rw[hph];simp only[jK]) h.lk (λV E=>.inl E) (λs a J=>by cases J) ⟨d.ll,d.lo,d.hb,d.hl,by
    unfold iz;exact⟨G,B,p,Q⟩⟩
  refine⟨iH.mk' hg d.hl L e hi (KS.refl _),.inl ?_⟩;rw[e,r];refine⟨_,_,rfl,rfl,zO D,⟨rfl,c,i,rfl⟩,?_⟩;simp only[pn];split<;>omega
theorem Wdp (h:GA A)(j w:Nat):(YA A (j:Int) (w:Int)).length<=w:=by
 unfold YA;split
 ·rename_i h0;have a:A.ck (j:Int)=true:=by
   unfold Kb at h0;split at h0
   ·assumption
   ·cases h0
  obtain⟨i,hi,d⟩:=H6.1 a;obtain⟨c,g,t,b,m⟩:=h.cl d;have:i=j:=by omega
  subst this;unfold V0;rw[dF,dF,b.1,b.2];exact(Gz w (h.cG i c g b)).2.2.1
 ·simp
theorem SJ (H:Hw)(t:Nat)(B:AR)(h:H.own t<H.bZ.length)(sp:Sp)(bR:List Th):Hw.eN {H.cE (H.own t) B with sp:=sp,bR:=bR} t=B:=by
 refine B4 ?_;have:Hw.own {H.cE (H.own t) B with sp:=sp,bR:=bR} t=H.own t:=by unfold Hw.own Hw.cE;simp
 rw[this];simp[Hw.cE,h]
theorem RE (h:HI H held s0)(hg:H.bR[t]?=some g){w:Nat}(hph:g.ph=some (.cL k w)){cl sz:Int}(hr:Rq H.tb g (.cL k w) cl sz):iH H t (.cL k w)/\uE H t (.cL k w) cl sz:=by
 have C:=(cY.1 hg).1;have d:=h.th g (h.mem hg);obtain⟨G,F,r,P⟩:g.bQ=[]/\k<H.tb.length/\(g.li k).os=[]/\1<=w/\w<=32:=by have:=d.ph;unfold iz at this;rw[hph]at this;exact this
 obtain⟨rfl,c,J,rfl⟩:=hr;have K:=h.eN t;have ga:=h.wi.ga _ _ K;have wi:=h.wi.from K (k:Int) (w:Int);have i:=Wdp ga k w;have m:=(EB ga (k:Int) (w:Int)).2.2.1;cases hv:YA (H.eN t) (k:Int) (w:Int)with
 | nil=>
  have A:WG H t (.cL k w)=({H.cE (H.own t) (YT (H.eN t) (k:Int) (w:Int))with bR:=H.bR.set t g},some (.grow k w),0,0):=by
   have:H.bR.set t g=H.bR:=QQ hg;rw[this];simp only[WG,hv,zT,Hw.cE]
  have e:=QC (H1:=H.cE (H.own t) (YT (H.eN t) (k:Int) (w:Int))) C A;rw[hv]at wi;simp only[pq,kR]at wi;have hi:=h.fB hg (g':={g with ph:=some (.grow k w)}) (live':=H.live) wi h.nf rfl (by simp[Wd.put]) (λp j _=>.inl j) (λM y=>by
   unfold gU;rw[hph];simp only[jK]) h.lk (λQ E=>.inl E) (λs a j=>by cases j) ⟨d.ll,d.lo,d.hb,d.hl,by
    unfold iz;exact⟨G,F,r,P⟩⟩
  refine⟨iH.mk' hg d.hl trivial e hi (KS.refl _),.inl ?_⟩;rw[e,A];exact⟨_,_,rfl,rfl,zO C,⟨rfl,c,J,rfl⟩,by simp[pn,hv]⟩
 | cons v vs=>
  have A:WG H t (.cL k w)=({H.cE (H.own t) (YT (H.eN t) (k:Int) (w:Int))with bR:=H.bR.set t {g with bQ:=[(k,(v::vs).map λ(x:Nat)=>(x:Int))]}},some .fill,0,0):=by
   simp only[WG,hv,Ks];rw[zB aA,ZW (g:=g) (by exact hg),G];rfl
  have e:=QC (H1:=H.cE (H.own t) (YT (H.eN t) (k:Int) (w:Int))) C A;rw[hv]at wi i m;have u:((v::vs).map λ(x:Nat)=>(x:Int)).Nodup:=List.Pairwise.map (R:=(· ≠ ·)) _ (λa b D e=>D O) m;have app:=FY (held:=held) (new:=(v::vs).map λy=>(⟨H.own t,(k:Int),y,pU H.tb (k:Int),false⟩:Pc)) (cl:=(k:Int)) (l:=(v::vs).map λ(x:Nat)=>(x:Int)) (λp j=>by
   obtain⟨y,B,rfl⟩:=zE.1 j;exact⟨rfl,rfl,zE.2 ⟨y,B,rfl⟩⟩) λx L=>by
   obtain⟨y,B,rfl⟩:=zE.1 L;exact⟨_,zE.2 ⟨y,B,rfl⟩,rfl⟩
  have new:=CQ wi;have hi:=h.fB hg (g':={g with bQ:=[(k,(v::vs).map λ(x:Nat)=>(x:Int))],ph:=some .fill}) (live':=H.live) wi h.nf rfl (by simp[Wd.put]) (EC wi) (λM y=>by
   rw[Ee u (λy B=>by
    obtain⟨z,N,rfl⟩:=zE.1 B;exact new ⟨H.own t,(k:Int),z,pU H.tb (k:Int),false⟩ (zE.2 ⟨z,N,rfl⟩) _) app]
   unfold gU;rw[hph,G];simp only[jK,Vp,V7];omega) h.lk (λQ E=>.inl E) (λs a j=>by cases j) ⟨d.ll,d.lo,λb hb=>by
    simp only[zN]at hb;subst hb;exact⟨F,by simp,by simp at i ⊢;omega⟩,by simp,by
    unfold iz;exact⟨k,(v:Int),vs.map λ(x:Nat)=>(x:Int),rfl,F,r,by simp at i ⊢;omega⟩⟩
  refine⟨iH.mk' hg d.hl trivial e hi (KS.refl _),.inl ?_⟩;rw[e,A];refine⟨_,_,rfl,rfl,zO C,⟨k,_,[],c,rfl,rfl,J,rfl⟩,?_⟩;simp[pn,hv]
theorem WmG (h:HI H held s0)(hg:H.bR[t]?=some g){w:Nat}(hph:g.ph=some (.grow k w)){cl sz:Int}(hr:Rq H.tb g (.grow k w) cl sz):iH H t (.grow k w)/\uE H t (.grow k w) cl sz:=by
 have z:=(cY.1 hg).1;have b:=h.th g (h.mem hg);obtain⟨C,E,u,D⟩:g.bQ=[]/\k<H.tb.length/\(g.li k).os=[]/\1<=w/\w<=32:=by have:=b.ph;unfold iz at this;rw[hph]at this;exact this
 obtain⟨rfl,c,F,rfl⟩:=hr;have x:=h.eN t;have ga:=h.wi.ga _ _ x;obtain⟨e1,e2,B,r⟩:=h.nf.cQ (H.eN t) (k:Int);have wi:=h.wi.grow x (k:Int);by_cases h0:Vw (H.eN t) H.sp (k:Int)=0
 ·have m:WG H t (.grow k w)=({{H.cE (H.own t) (cQ (H.eN t) H.sp (k:Int)).1 with sp:=(cQ (H.eN t) H.sp (k:Int)).2}with bR:=H.bR.set t g},some (.cL k w),0,0):=by
   have:H.bR.set t g=H.bR:=QQ hg;rw[this];simp only[WG,h0,zT,Hw.cE]
  have e:=QC (H1:={H.cE (H.own t) (cQ (H.eN t) H.sp (k:Int)).1 with sp:=(cQ (H.eN t) H.sp (k:Int)).2}) z m;have d:=Mz ga (h.wi.ow _ _ x) (j:=k) (by rw[←e2];exact h0) D.1;rw[show(Wd.mk H.tb s0 H.bZ held).sp=s0 from rfl,←e1]at d;rw[show(Wd.mk H.tb s0 H.bZ held).sp=s0 from rfl,←e1]at wi;have hi:=h.fB hg (g':={g with ph:=some (.cL k w)}) (live':=H.live) wi B r.l (by simp[Wd.put]) (λp i _=>.inl i) (λG y=>by
   unfold gU;rw[hph];simp only[jK]) h.lk (λJ A=>.inl A) (λs a i=>by cases i) ⟨b.ll,b.lo,b.hb,b.hl,by
    unfold iz;exact⟨C,E,u,D⟩⟩
  refine⟨iH.mk' hg b.hl trivial e hi r,.inl ?_⟩;rw[e,m];refine⟨_,_,rfl,rfl,zO z,⟨rfl,c,F,rfl⟩,?_⟩;have:=SJ H t (cQ (H.eN t) H.sp (k:Int)).1 (h.jV t) (cQ (H.eN t) H.sp (k:Int)).2 (H.bR.set t {g with ph:=some (.cL k w)});simp only[pn];rw[this,zB d];omega
 ·have m:WG H t (.grow k w)=({{H.cE (H.own t) (cQ (H.eN t) H.sp (k:Int)).1 with sp:=(cQ (H.eN t) H.sp (k:Int)).2}with bR:=H.bR.set t g},none,0,Vw (H.eN t) H.sp (k:Int)):=by
   have:H.bR.set t g=H.bR:=QQ hg;rw[this];simp only[WG,h0,jR,Hw.cE]
  have e:=QC (H1:={H.cE (H.own t) (cQ (H.eN t) H.sp (k:Int)).1 with sp:=(cQ (H.eN t) H.sp (k:Int)).2}) z m;rw[show(Wd.mk H.tb s0 H.bZ held).sp=s0 from rfl,←e1]at wi;have hi:=h.fB hg (g':={g with ph:=none}) (live':=H.live) wi B r.l (by simp[Wd.put]) (λp i _=>.inl i) (λG y=>by
   unfold gU;rw[hph];simp only[jK]) h.lk (λJ A=>.inl A) (λs a i=>by cases i) ⟨b.ll,b.lo,b.hb,b.hl,by
    unfold iz;exact C⟩
  refine⟨iH.mk' hg b.hl trivial e hi r,.inr (.inl ?_)⟩;rw[e,m];exact⟨rfl,h0,rfl,rfl⟩
theorem M7 (h:HI H held s0)(hg:H.bR[t]?=some g)(hph:g.ph=some .fill){cl sz:Int}(hr:Rq H.tb g .fill cl sz):iH H t .fill/\uE H t .fill cl sz:=by
 have R:=(cY.1 hg).1;have i:=h.th g (h.mem hg);obtain⟨k,x,xs,A,J,j,L⟩:∃k x xs,g.bQ=[(k,x::xs)]/\k<H.tb.length/\(g.li k).os=[]/\xs.length<=128:=by have:=i.ph;unfold iz at this;rw[hph]at this;exact this
 obtain⟨k',U,r,c,z,rfl,F,rfl⟩:=hr;rw[A]at z;obtain⟨d, -⟩:=List.cons.inj z;obtain rfl:k=k':=congrArg Prod.fst d;obtain⟨l,hl,p,E,M⟩:=i.li J;have u:=G7 hg;rw[p]at j;have m:(eM xs.reverse l).os=xs.reverse:=by unfold eM;rw[j,zB aE];simp
 have K:WG H t .fill=({{H with live:=dA H.live x (x,(c.size:Int),(k:Int),Yg H.bZ x)}with bR:=H.bR.set t {ls:=g.ls.set k (eM xs.reverse l),bQ:=[],ph:=g.ph}},none,x,0):=by
  simp only[WG,u,A,UF F,V6,ZW hg,p]
 have e:=QC R K;have w:1<=gU g (k:Int) x:=by
  unfold gU;rw[A,Vp,zC rfl];have:1<=(x::xs).count x:=CM.2 aA;simp only;omega
 have G:=h.rp (h.mem hg) w;have B:=h.lR (h.mem hg) w;obtain⟨P,Q⟩:=i.iv (k:=k) (AE (xs:=xs.reverse) E) (by rw[m];simp;omega);have hi:=h.kH hg (g':={ls:=g.ls.set k (eM xs.reverse l),bQ:=[],ph:=none}) (live':=dA H.live x (x,(c.size:Int),(k:Int),Yg H.bZ x)) (λk' y=>by
  rw[CP _ B];have D:=AS hl (eM xs.reverse l) k' y;rw[j,m,List.count_reverse,List.count_nil]at D;have V:(x::xs).count y=[x].count y+xs.count y:=wZ (l₁:=[x]) (l₂:=xs);unfold gU;rw[hph,A];simp only[jK,Vp,V7];by_cases d:(k:Int)=k'
  ·simp only[d,zT]at D ⊢;omega
  ·simp only[d,jR]at D ⊢;omega)
  (Go.Vc.gV h.lk) (λW C=>by
   rcases(yZ B).1 C with C|rfl
   ·exact .inl C
   ·exact .inr (h.ya G F))
  (λs a S=>by cases S) ⟨P,Q,λb N=>by simp at N,by simp,by unfold iz;rfl⟩
 refine⟨iH.mk' hg i.hl ⟨k,x,xs,[],by rw[u];exact A,J,(h.i63 G).1,by rw[u,p,j];simp;omega⟩ e hi (KS.refl _),.inr (.inr ?_)⟩;rw[e,K];exact⟨rfl,rfl,B,rfl⟩
theorem NO (h:HI H held s0)(hg:H.bR[t]?=some g){m:Nat}(hph:g.ph=some (.eP m)){cl sz:Int}(hr:Rq H.tb g (.eP m) cl sz):iH H t (.eP m)/\uE H t (.eP m) cl sz:=by
 have L:=(cY.1 hg).1;have b:=h.th g (h.mem hg);obtain⟨M,S,P⟩:g.bQ=[]/\1<=m/\m<=64:=by have:=b.ph;unfold iz at this;rw[hph]at this;exact this
 obtain⟨rfl,rfl⟩:=hr;have K:=h.eN t;have ga:=h.wi.ga _ _ K;obtain⟨e1,e2,Q,J,D⟩:=h.nf.cC (H.eN t) (m:Int) 1;have wi:=h.wi.xK K (m:Int) 1;rw[show(Wd.mk H.tb s0 H.bZ held).sp=s0 from rfl,←e1,←e2,←Q]at wi;by_cases h0:Q6 (H.eN t) H.sp (m:Int) 1=0
 ·rw[zC h0]at wi;have j:=CQ wi;have A:=FY (held:=held) (new:=[(⟨H.own t, -1,QD (H.eN t) H.sp (m:Int) 1*256,(m:Int).toNat*256,false⟩:Pc)]) (cl:=-1) (l:=[((QD (H.eN t) H.sp (m:Int) 1*256:Nat):Int)]) (λp d=>by
   simp only[zN]at d;subst d;exact⟨rfl,rfl,by simp⟩) λx B=>by
   simp only[zN]at B;subst B;exact⟨_,zN.2 rfl,rfl⟩
  have i:(⟨H.own t, -1,QD (H.eN t) H.sp (m:Int) 1*256,(m:Int).toNat*256,false⟩:Pc)∈held++[(⟨H.own t, -1,QD (H.eN t) H.sp (m:Int) 1*256,(m:Int).toNat*256,false⟩:Pc)]:=by simp
  have E:=wi.size_pos i;have u:=wi.jU i;have F:=wi.owner i (x:=QD (H.eN t) H.sp (m:Int) 1*256) (zD _) (by simp only at E ⊢;omega);generalize C:QD (H.eN t) H.sp (m:Int) 1=V at *;have r:bU H.live ((V*256:Nat):Int)=none:=h.tD λG R=>j _ (zN.2 rfl) G R;have z:WG H t (.eP m)=({{H.cE (H.own t) (cC (H.eN t) H.sp (m:Int) 1).1 with sp:=(cC (H.eN t) H.sp (m:Int) 1).2,live:=dA H.live ((V*256:Nat):Int) (((V*256:Nat):Int),((m*256:Nat):Int), -1,Yg (H.bZ.set (H.own t) (cC (H.eN t) H.sp (m:Int) 1).1) ((V*256:Nat):Int))}with bR:=H.bR.set t g},none,((V*256:Nat):Int),0):=by
   have:H.bR.set t g=H.bR:=QQ hg;rw[this];simp only[WG,h0,zT,Hw.cE,V6,C]
  have e:=QC (H1:={H.cE (H.own t) (cC (H.eN t) H.sp (m:Int) 1).1 with sp:=(cC (H.eN t) H.sp (m:Int) 1).2,live:=dA H.live ((V*256:Nat):Int) (((V*256:Nat):Int),((m*256:Nat):Int), -1,Yg (H.bZ.set (H.own t) (cC (H.eN t) H.sp (m:Int) 1).1) ((V*256:Nat):Int))}) L z;have hi:=h.fB hg (g':={g with ph:=none}) (live':=dA H.live ((V*256:Nat):Int) (((V*256:Nat):Int),((m*256:Nat):Int), -1,Yg (H.bZ.set (H.own t) (cC (H.eN t) H.sp (m:Int) 1).1) ((V*256:Nat):Int))) wi J D.l (by simp[Wd.put]) (EC wi) (λG y=>by
   rw[CP _ r,Ee (l:=[((V*256:Nat):Int)]) (cl:=-1) aA (λy N=>by
    simp only[zN]at N;subst N;exact j _ (zN.2 rfl) _) A]
   unfold gU;rw[hph];simp only[jK];omega) (Go.Vc.gV h.lk) (λU w=>by
    rcases(yZ r).1 w with w|rfl
    ·exact .inl w
    ·refine .inr ⟨rfl,_,i,rfl,rfl,rfl,?_,?_⟩
     ·simp
     ·exact F) (λs a d=>by cases d) ⟨b.ll,b.lo,b.hb,b.hl,by
    unfold iz;exact M⟩
  refine⟨iH.mk' hg b.hl ?_ e hi D,.inr (.inr ?_)⟩
  ·show QD (H.eN t) H.sp (m:Int) 1<=1000000;rw[C];simp only at u;omega
  ·rw[e,z];exact⟨rfl,rfl,r,rfl⟩
 ·rw[zB h0]at wi;have C:QD (H.eN t) H.sp (m:Int) 1=0:=by
   unfold Q6 at h0;unfold QD;split
   ·rename_i d;rw[d,zC rfl]at h0;split at h0
    ·exact(h0 rfl).elim
    ·rename_i hn;cases B:(dC (H.eN t) H.sp (m:Int).toNat (1:Int).toNat 41).1 with
     | none=>rfl
     | some y=>rw[B]at hn;simp at hn
   ·rfl
  have z:WG H t (.eP m)=({{H.cE (H.own t) (cC (H.eN t) H.sp (m:Int) 1).1 with sp:=(cC (H.eN t) H.sp (m:Int) 1).2}with bR:=H.bR.set t g},none,0,Q6 (H.eN t) H.sp (m:Int) 1):=by
   have:H.bR.set t g=H.bR:=QQ hg;rw[this];simp only[WG,h0,jR,Hw.cE]
  have e:=QC (H1:={H.cE (H.own t) (cC (H.eN t) H.sp (m:Int) 1).1 with sp:=(cC (H.eN t) H.sp (m:Int) 1).2}) L z;have hi:=h.fB hg (g':={g with ph:=none}) (live':=H.live) wi J D.l (by simp[Wd.put]) (λp d _=>.inl d) (λG y=>by
   unfold gU;rw[hph];simp only[jK]) h.lk (λU w=>.inl w) (λs a d=>by cases d) ⟨b.ll,b.lo,b.hb,b.hl,by
    unfold iz;exact M⟩
  refine⟨iH.mk' hg b.hl ?_ e hi D,.inr (.inl ?_)⟩
  ·show QD (H.eN t) H.sp (m:Int) 1<=1000000;rw[C];omega
  ·rw[e,z];exact⟨rfl,h0,rfl,rfl⟩
theorem Wnu {W:Wd}(h:WI W)(hk:W.bZ[k]?=some A){j:Nat}{l:List Int}(hl:∀x∈l,∃p∈W.held,l4 k (j:Int) x p=true)(hn:l.Nodup)(hj:j<W.tb.length):Kv A (j:Int) l=0/\WI (W.put k (ZY A (j:Int) l) W.sp (W.held.filter λp=>!eD k (j:Int) l p)):=by
 have ga:=h.ga k A hk;have d:jq W.held k (j:Int) l=true:=Vl.2 ⟨hl,hn⟩;obtain⟨c,z,_,i,_⟩:=ga.cl (k:=j) (by rw[h.tb k A hk];exact hj);have g:Kv A (j:Int) l=0:=by
  rw[GB ga i];refine F2 ⟨λx s=>?_,hn⟩;obtain⟨p,r,b⟩:=hl x s;obtain⟨u,w,m,y⟩:=Vr.1 b;obtain⟨_,_,_,a,_⟩:=h.cls r w (by rw[u];exact hk);rw[m]at a;exact(VM i).1 a
 refine⟨g,?_⟩;have:=h.SL hk d;rw[zC g,h.Ao d]at this;exact this
theorem ES {xs:List Int}{tb:List cA}{ars0:List AR}(hH:H.tb=tb)(h:WI ⟨tb,s0,H.bZ,held⟩)(hk:k<tb.length)(hxs:∀x∈xs,Um held (k:Int) x)(hn:xs.Nodup)(ha:∀p∈held,Yg ars0 (p.addr:Int)=(p.k:Int)):∀j,j<=H.bZ.length →
 ∃ars',VL H k (Z8 ars0 xs) (List.range j) = {H with bZ:=ars'}/\ars'.length=H.bZ.length/\WI ⟨tb,s0,ars',held.filter λp=>!(decide (p.k<j)&&(p.cls==(k:Int)&&xs.contains (p.addr:Int)))⟩
 | 0,_=>by
  refine⟨H.bZ,rfl,rfl,?_⟩;have:(held.filter λp=>!(decide (p.k<0)&&(p.cls==(k:Int)&&xs.contains (p.addr:Int))))=held:=qv.2 λp _=>by simp
  rw[this];exact h
 | j+1,hj=>by
  obtain⟨ars',e,w,u⟩:=ES hH h hk hxs hn ha j O;rw[VK,e];have y:ars'[j]?=some (ars'[j]' O):=cW _;simp only[y];have b:∀{p:Pc},p∈held->p.k=j->((p.addr:Int)∈Z8 ars0 xs j↔(p.addr:Int)∈xs):=λ{p} d a=>by
   unfold Z8;rw[zL,ha p d,a];simp
  have g:((held.filter λp=>!(decide (p.k<j)&&(p.cls==(k:Int)&&xs.contains (p.addr:Int)))).filter λp=>!eD j (k:Int) (Z8 ars0 xs j) p)=held.filter λp=>!(decide (p.k<j+1)&&(p.cls==(k:Int)&&xs.contains (p.addr:Int))):=by
   rw[Cr];apply vI;intro p d;have e1:eD j (k:Int) (Z8 ars0 xs j) p=(p.k==j&&(p.cls==(k:Int)&&xs.contains (p.addr:Int))):=by
    unfold eD;by_cases a:p.k=j
    ·have:=b d a;have e2:(Z8 ars0 xs j).contains (p.addr:Int)=xs.contains (p.addr:Int):=by
      rw[j0,Af,Af];exact this
     rw[e2]
    ·have:(p.k==j)=false:=by simpa using a
     rw[this];rfl
   rw[e1];have A:decide (p.k<j+1)=(decide (p.k<j)||p.k==j):=by
    rw[j0];simp;omega
   rw[A];cases p.k==j<;>cases decide (p.k<j)<;>cases(p.cls==(k:Int)&&xs.contains (p.addr:Int))<;>rfl
  by_cases d:Z8 ars0 xs j=[]
  ·rw[zC d];refine⟨ars',rfl,w,?_⟩;rw[←g,d];have:∀p:Pc,(!eD j (k:Int) [] p)=true:=λp=>by simp[eD]
   rw[qv.2 λp _=>this p];exact u
  ·rw[zB d];refine⟨ars'.set j (ZY (ars'[j]' O) (k:Int) (Z8 ars0 xs j)),by simp[Hw.cE],by simp[w],?_⟩;rw[←g];refine(Wnu u y (j:=k) (l:=Z8 ars0 xs j) (λx s=>?_) (hn.sublist ux) hk).2;unfold Z8 at s;obtain⟨m,i⟩:=zL.1 s;obtain⟨p,d,z,B,r⟩:=hxs x m;have a:p.k=j:=by
    have:=ha p d;rw[r]at this;rw[this]at i;have:(p.k:Int)=(j:Int):=by simpa using i
    omega
   exact⟨p,zL.2 ⟨d,by simp[a]⟩,Vr.2 ⟨a,B,r,z⟩⟩
theorem SV {tb:List cA}(hH:H.tb=tb)(h:WI ⟨tb,s0,H.bZ,held⟩){own:Nat}(hown:own<H.bZ.length)(hk:k<tb.length){xs:List Int}(hxs:∀x∈xs,Um held (k:Int) x)(hn:xs.Nodup) :
 ∃ars' held',GI H own k xs = {H with bZ:=ars'}/\ars'.length=H.bZ.length/\WI ⟨tb,s0,ars',held'⟩/\(∀c x,Um held' c x↔Um held c x/\¬(c=(k:Int)/\x∈xs))/\∀p∈held',p.eU=false->p∈held:=by
 have s:H.bZ[own]?=some H.bZ[own]:=cW hown;have y:∀p∈held,Yg H.bZ (p.addr:Int)=(p.k:Int):=λp a=>h.owner a (zD _) (by have:=(h.size_pos a).1;omega);have all:∃ars' held',VL H k (Z8 H.bZ xs) (List.range H.bZ.length) = {H with bZ:=ars'}/\ars'.length=H.bZ.length/\WI ⟨tb,s0,ars',held'⟩/\(∀c x,Um held' c x↔Um held c x/\¬(c=(k:Int)/\x∈xs))/\∀p∈held',p.eU=false->p∈held:=by
  obtain⟨ars',e,r,j⟩:=ES hH h hk hxs hn y H.bZ.length (zD _);refine⟨ars',_,e,r,j,λc x=>?_,λp a _=>(zL.1 a).1⟩;constructor
  ·rintro⟨p,a,g,i,d⟩;obtain⟨a,hf⟩:=zL.1 a;refine⟨⟨p,a,g,i,d⟩,?_⟩;rintro⟨rfl,b⟩;obtain⟨B,z,_⟩:=h.hf p a;have u:p.k<H.bZ.length:=(cY.1 z).1;rw[i,d]at hf;simp[u,b]at hf
  ·rintro⟨⟨p,a,g,i,d⟩,hno⟩;refine⟨p,zL.2 ⟨a,?_⟩,g,i,d⟩;rw[i,d];by_cases hc:c=(k:Int)
   ·have:x∉xs:=λb=>hno ⟨hc,b⟩;simp[this]
   ·simp[hc]
 unfold GI;rw[s];simp only;by_cases hcond:(Z8 H.bZ xs own).length=xs.length/\VN H.bZ[own] (k:Int) xs=true
 ·rw[zC hcond];have m:∀x∈xs,Yg H.bZ x=(own:Int):=by
   have g:Z8 H.bZ xs own=xs:=by
    unfold Z8 at hcond ⊢;exact List.filter_sublist.eq_of_length hcond.1
   intro x b;rw[←g]at b;unfold Z8 at b;simpa using(zL.1 b).2
  have w:jq held own (k:Int) xs=true:=Vl.2 ⟨λx b=>by
   obtain⟨p,a,g,i,d⟩:=hxs x b;have A:=y p a;rw[d,m x b]at A;exact⟨p,a,Vr.2 ⟨O,i,d,g⟩⟩,hn⟩
  have j:=h.Ss s w;rw[zC hcond.2]at j;exact⟨_,_,rfl,by simp[Hw.cE],j,OW h w,Se⟩
 ·rw[zB hcond];have e:(if(Z8 H.bZ xs own).length=xs.length then H.cE own (KH H.bZ[own] (k:Int) xs)else H)=H:=by
   split
   ·rename_i r;have C:VN H.bZ[own] (k:Int) xs=false:=by
     apply nL.2;intro b;exact hcond ⟨r,b⟩
    have:KH H.bZ[own] (k:Int) xs=H.bZ[own]:=by unfold KH;rw[C];rfl
    rw[this];exact Ji s
   ·rfl
  rw[e];exact all
def lM:Ph->Prop
 | .find _=>True
 | .put _ _=>True
 | .back=>True
 | .dH _ _=>True
 | .drain=>True
 | _=>False
def qQ (g:Th):Ph->Nat
 | .find _=>101
 | .put _ _=>100
 | .drain=>100
 | .back=>g.bQ.length
 | _=>0
def nD (H:Hw)(t:Nat)(g:Th)(p:Ph):Prop:=(WG H t p).2.2.1=0 ∧
 ((∃p' g',(WG H t p).2.1=some p'/\lM p'/\(∀x,p'≠.find x)/\(Kd H t p).bR[t]?=some g'/\qQ g' p'<qQ g p)\/(WG H t p).2.1=none) ∧
 ((∀x,p≠.find x)->(WG H t p).2.2.2=0/\(Kd H t p).live=H.live) ∧
 (∀x,p=.find x->(bU H.live x=none->(WG H t p).2.1=none/\(WG H t p).2.2.2≠0/\(Kd H t p).live=H.live)/\(∀b,bU H.live x=some b->(WG H t p).2.2.2=0/\(Kd H t p).live=cO H.live x))
theorem DE (hg:H.bR[t]?=some g):kc H t=if g.bQ=[]then none else some .back:=by unfold kc;rw[hg]
theorem τ (h:HI H held s0)(hg:H.bR[t]?=some g){x:Int}(hph:g.ph=some (.find x)):iH H t (.find x)/\nD H t g (.find x):=by
 have L:=(cY.1 hg).1;have d:=h.th g (h.mem hg);obtain⟨M,C⟩:g.bQ=[]/\iN x:=by have:=d.ph;unfold iz at this;rw[hph]at this;exact this
 have Q:∀A∈H.bZ,iQ A:=λA S=>by
  obtain⟨j,hj⟩:=zP S;exact(h.wi.ga j A hj).pW
 cases hm:bU H.live x with
 | none=>
  have z:WG H t (.find x)=({H with bR:=H.bR.set t g},none,0,lW H x):=by
   have:H.bR.set t g=H.bR:=QQ hg;rw[this];simp only[WG,Ho,hm]
  have e:=QC L z;have hi:=h.kH hg (g':={g with ph:=none}) (live':=H.live) (λF x=>by
   unfold gU;rw[hph];simp only[jK]) h.lk (λY K=>.inl K) (λs a N=>by cases N) ⟨d.ll,d.lo,d.hb,d.hl,by
    unfold iz;exact M⟩
  refine⟨iH.mk' hg d.hl ⟨C,λ_=>Q,λb hb=>by rw[hm]at hb;cases hb⟩ e hi (KS.refl _),?_⟩;unfold nD;rw[e,z];refine⟨rfl,.inr rfl,λi=>(i x rfl).elim,λy m=>?_⟩;cases m;refine⟨λ_=>⟨rfl,?_,rfl⟩,(λb hb=>by rw[hm]at hb;cases hb)⟩;show lW H x≠0;unfold lW
  repeat' split
  all_goals simp
 | some b=>
  have R:=ZD hm;obtain⟨_,p,N,h1,P,V,Z,X⟩:=h.lv _ R;simp only at P V Z X;have U:0<=x:=by omega
  obtain⟨A,S,hd⟩:=h.wi.hf p N;have W:vG H t (.find x):=⟨C,(λi=>by rw[hm]at i;cases i),λ_ _=>U⟩;rcases hd with⟨c1,_,r,hr,c2,c3⟩|⟨j,c,c1,c2,c3,_⟩
  ·have J:b.2.2.1 = -1:=by rw[←P,c1]
   have z:WG H t (.find x)=({{H with live:=cO H.live x}with bR:=H.bR.set t g},some (.dH (x/256) b.2.2.2),0,0):=by
    have:H.bR.set t g=H.bR:=QQ hg;rw[this];simp only[WG,Ho,hm];rw[zC O]
   have e:=QC (H1:={H with live:=cO H.live x}) L z;have u:x/256*256=x:=by omega
   have hi:=h.kH hg (g':={g with ph:=some (.dH (x/256) b.2.2.2)}) (live':=cO H.live x) (λF y=>by
    have w:=Bo h.lk hm F y;rw[J]at w;unfold gU;rw[hph];simp only[jK,u];by_cases m:x=y
    ·subst m;rw[Ed]at w;by_cases hk : -1=F
     ·rw[zC hk]at w;rw[zC ⟨hk.symm,rfl⟩];omega
     ·rw[zB hk]at w;rw[zB (λC=>hk C.1.symm)];omega
    ·have:[x].count y=0:=Al.2 aE;rw[this]at w;rw[zB (λC=>m C.2.symm)];split at w<;>omega)
    (Go.Vc.jy h.lk) (λY K=>.inl (AK.1 K).1) (λs a B=>by
     cases B;exact⟨p,N,h1,c1,by rw[u];exact V,X⟩) ⟨d.ll,d.lo,d.hb,d.hl,by
      unfold iz;exact M⟩
   refine⟨iH.mk' hg d.hl W e hi (KS.refl _),?_⟩;unfold nD;rw[e,z];refine⟨rfl,.inl ⟨_,_,rfl,trivial,(λy m=>by cases m),zO L,by simp[qQ]⟩,λi=>(i x rfl).elim,λy m=>?_⟩;cases m;exact⟨(λi=>by rw[hm]at i;cases i),λ_ _=>⟨rfl,rfl⟩⟩
  ·have E:b.2.2.1=(j:Int):=by rw[←P,c1]
   have D:j<H.tb.length:=by
    rw[h.wi.tb _ _ S]at c2;exact(cY.1 c2).1
   have z:WG H t (.find x)=({{H with live:=cO H.live x}with bR:=H.bR.set t {g with bQ:=[(j,[x])]}},some (.put j x),0,0):=by
    simp only[WG,Ho,hm];rw[zB O,E,dF];unfold Ks;rw[ZW (g:=g) (by exact hg),M];rfl
   have e:=QC (H1:={H with live:=cO H.live x}) L z;have hi:=h.kH hg (g':={g with bQ:=[(j,[x])],ph:=some (.put j x)}) (live':=cO H.live x) (λF y=>by
    have w:=Bo h.lk hm F y;rw[E]at w;unfold gU;rw[hph,M];simp only[jK,Vp,V7];omega)
    (Go.Vc.jy h.lk) (λY K=>.inl (AK.1 K).1) (λs a B=>by cases B) ⟨d.ll,d.lo,λb' G=>by
     simp only[zN]at G;subst G;exact⟨D,by simp,by simp⟩,by simp,by
     unfold iz;exact⟨rfl,D⟩⟩
   refine⟨iH.mk' hg d.hl W e hi (KS.refl _),?_⟩;unfold nD;rw[e,z];refine⟨rfl,.inl ⟨_,_,rfl,trivial,(λy m=>by cases m),zO L,by simp[qQ]⟩,λi=>(i x rfl).elim,λy m=>?_⟩;cases m;exact⟨(λi=>by rw[hm]at i;cases i),λ_ _=>⟨rfl,rfl⟩⟩
theorem JK {f:cA->Li->List Int×Li}{tb:List cA}{ls:List Li}{b:Bt}(h:b∈KN f tb ls):b.1<tb.length/\b.2≠[]/\∃c∈tb,∃l∈ls,b.2=(f c l).1:=by
 unfold KN at h;obtain⟨k,d,a⟩:=xo.1 h;split at a
 ·rename_i c l hc hl;split at a
  ·cases a
  ·cases a;exact⟨zg.1 d,by assumption,c,zG hc,l,zG hl,rfl⟩
 ·cases a
theorem FK {f:cA->Li->List Int×Li}{tb:List cA}{ls:List Li}{l':Li}(h:l'∈KI f tb ls):∃c∈tb,∃l∈ls,l'=(f c l).2:=by
 unfold KI at h;obtain⟨i,hi⟩:=zP h;rw[BR]at hi;split at hi
 ·rename_i c l hc hl;cases hi;exact⟨c,zG hc,l,zG hl,rfl⟩
 ·cases hi
theorem Fq {f:cA->Li->List Int×Li}{tb:List cA}{ls:List Li}(h:ls.length=tb.length):(KI f tb ls).length=tb.length:=by
 unfold KI;rw[List.length_zipWith];omega
theorem EM (c:cA)(l:Li):(Vz c l).2.os.length<=l.os.length/\(Vz c l).1.length<=l.os.length:=by
 simp only[Vz,gO,ky,zY];omega
theorem Ev (c:cA)(l:Li):(Qc c l).2.os.length<=l.os.length/\(Qc c l).1.length<=l.os.length:=by
 simp only[Qc,gO,ky,zY];omega
theorem SY (h:HI H held s0)(hg:H.bR[t]?=some g)(hph:g.ph=some .drain):iH H t .drain/\nD H t g .drain:=by
 have m:=(cY.1 hg).1;have d:=h.th g (h.mem hg);have G:g.bQ=[]:=by have:=d.ph;unfold iz at this;rw[hph]at this;exact this
 have F:=h.rH;have E:=Ea Qc H.tb g.ls;have u:WG H t .drain=({H with bR:=H.bR.set t {g with ls:=KI Qc H.tb g.ls,bQ:=KN Qc H.tb g.ls}},(if KN Qc H.tb g.ls=[]then none else some .back),0,0):=by
  simp only[WG,ZW hg];rw[DE (g:={g with ls:=KI Qc H.tb g.ls,bQ:=KN Qc H.tb g.ls}) (by simp[m])]
 have e:=QC m u;have hi:=h.kH hg (g':={ls:=KI Qc H.tb g.ls,bQ:=KN Qc H.tb g.ls,ph:=if KN Qc H.tb g.ls=[]then none else some .back}) (live':=H.live) (λr x=>by
  have K:=ET (f:=Qc) SW d.ll r x;unfold gU;rw[hph,G];have:jK (if KN Qc H.tb g.ls=[]then none else some Ph.back) r x=0:=by split<;>rfl
  simp only[this,V7];simp only[jK];omega) h.lk (λL C=>.inl C) (λs a p=>by
   simp only at p;split at p<;>cases p) ⟨Fq d.ll,λl hl=>by
   obtain⟨c,_,j,i,rfl⟩:=FK hl;have:=d.lo j i;have:=Ev c j;exact⟨Mr (d.lo j i).1,O⟩,λb B=>by
   obtain⟨D,A,c,_,j,i,w⟩:=JK B;have:=d.lo j i;have:=Ev c j;exact⟨D,A,by rw[w];omega⟩,by simp only;omega,by
   unfold iz;by_cases ho:KN Qc H.tb g.ls=[]
   ·rw[zC ho];exact ho
   ·rw[zB ho];exact ho⟩
 refine⟨iH.mk' hg d.hl trivial e hi (KS.refl _),?_⟩;unfold nD;rw[e,u];refine⟨rfl,?_,λ_=>⟨rfl,rfl⟩,λx z=>by cases z⟩;by_cases ho:KN Qc H.tb g.ls=[]
 ·exact .inr (by simp only;rw[zC ho])
 ·exact .inl ⟨.back,_,by simp only;rw[zB ho],trivial,(λy J=>by cases J),zO m,by simp only[qQ];omega⟩
theorem O0 (h:HI H held s0)(hg:H.bR[t]?=some g){s a:Int}(hph:g.ph=some (.dH s a)):iH H t (.dH s a)/\nD H t g (.dH s a):=by
 have S:=(cY.1 hg).1;have b:=h.th g (h.mem hg);have U:g.bQ=[]:=by have:=b.ph;unfold iz at this;rw[hph]at this;exact this
 obtain⟨p,C,Z,N,Y,W⟩:=h.gv g (h.mem hg) s a hph;obtain⟨A,z,_⟩:=h.wi.hf p C;have y:H.bZ[p.k]?=some A:=z;have R:=(cY.1 y).1;obtain⟨_,r,G,X,V⟩:=h.wi.run C N z;have ga:=h.wi.ga _ _ z;have d:s=(r.1:Int):=by omega
 have M:VA A s=0:=by
  unfold VA;rw[zC];unfold qT;rw[B9];exact⟨r,G,by simp[d]⟩
 have E:jq held p.k (-1) [s*256]=true:=by rw[d];exact h.wi.nu z G
 have wi:=h.wi.xl z s;rw[zC M,h.wi.Ao E]at wi;have u:a.toNat=p.k:=by omega
 have K:WG H t (.dH s a)=({H.cE p.k (Kc A s)with bR:=H.bR.set t g},none,0,0):=by
  have:H.bR.set t g=H.bR:=QQ hg;rw[this];simp only[WG,u,y,Hw.cE]
 have e:=QC (H1:=H.cE p.k (Kc A s)) S K;have hi:=h.fB hg (g':={g with ph:=none}) (live':=H.live) wi h.nf rfl (by simp[Wd.put]) (λq F _=>.inl (zL.1 F).1) (λw x=>by
  have i:=Ls (held':=held.filter λD=>!eD p.k (-1) [s*256] D) (l:=[s*256]) (cl:=-1) aA (Md E) (Ο h.wi E) w x;have i:lF held w x=lF (held.filter λD=>!eD p.k (-1) [s*256] D) w x+(if -1=w then[s*256].count x else 0):=i
  unfold gU;rw[hph];simp only[jK];by_cases hy:s*256=x
  ·subst hy;rw[Ed]at i;by_cases hk : -1=w
   ·rw[zC hk]at i;rw[zC ⟨hk.symm,rfl⟩];omega
   ·rw[zB hk]at i;rw[zB (λm=>hk m.1.symm)];omega
  ·have:[s*256].count x=0:=Al.2 aE;rw[this]at i;rw[zB (λm=>hy m.2.symm)];split at i<;>omega) h.lk (λe' Q=>.inl Q) (λs a C=>by cases C) ⟨b.ll,b.lo,b.hb,b.hl,by
   unfold iz;exact U⟩
 refine⟨iH.mk' hg b.hl ⟨O,O,λB L q F=>?_⟩ e hi (KS.refl _),?_⟩
 ·obtain⟨j,P⟩:=zP L;have J:=h.wi.ga j B P;have:=J.fit F;have:=J.pg.n2;omega
 ·unfold nD;rw[e,K];exact⟨rfl,.inr rfl,λ_=>⟨rfl,rfl⟩,λx m=>by cases m⟩
theorem Tv (h:HI H held s0)(hg:H.bR[t]?=some g)(hph:g.ph=some .back):iH H t .back/\nD H t g .back:=by
 have G:=(cY.1 hg).1;have d:=h.th g (h.mem hg);have R:g.bQ≠[]:=by have:=d.ph;unfold iz at this;rw[hph]at this;exact this
 have A:=G7 hg;cases hhd:g.bQ with
 | nil=>exact(R hhd).elim
 | cons b r=>
  obtain⟨k,C⟩:=b;obtain⟨K,z,D⟩:=d.hb (k,C) (by rw[hhd];simp);simp only at K z D;have m:∀x,C.count x<=gU g (k:Int) x:=λx=>by
   unfold gU;rw[hhd,Vp,zC rfl];simp only;omega
  have i:∀x∈C,Um held (k:Int) x:=λx u=>h.rp (h.mem hg) (kx (CM.2 u) (m x));have w:C.Nodup:=DF.2 λx=>by
   have P:=m x;have U:=h.oP (h.mem hg) (k:Int) x;have V:=IQ held (k:Int) x;omega
  obtain⟨j,E,Q,F,wi,um,sub⟩:=SV (H:={H with bR:=H.bR.set t {g with bQ:=r}}) (tb:=H.tb) rfl h.wi (h.jV t) K i w;have L:WG H t .back=({{H with bZ:=j}with bR:=H.bR.set t {g with bQ:=r}},(if r=[]then none else some .back),0,0):=by
   simp only[WG,A,hhd,ZW hg,Q];rw[DE (g:={g with bQ:=r}) (by simp[G])]
  have e:=QC (H1:={H with bZ:=j}) G L;have hi:=h.fB hg (g':={g with bQ:=r,ph:=if r=[]then none else some .back}) (live':=H.live) wi h.nf rfl F (λp B M=>.inl (sub p B M)) (λJ x=>by
   have P:=Ls w i um J x;unfold gU;rw[hph,hhd,Vp];have:jK (if r=[]then none else some Ph.back) J x=0:=by split<;>rfl
   simp only[this];simp only[jK];omega) h.lk (λW N=>.inl N) (λs a B=>by
    simp only at B;split at B<;>cases B) ⟨d.ll,d.lo,λb hb=>d.hb b (by rw[hhd];exact mc _ hb),by have:=d.hl;rw[hhd]at this;simp at this ⊢;omega,by
    unfold iz;by_cases ho:r=[]
    ·rw[zC ho];exact ho
    ·rw[zB ho];exact ho⟩
  refine⟨iH.mk' hg d.hl ⟨k,C,r,by rw[A];exact hhd,λx u=>⟨(h.i63 (i x u)).1,(h.i63 (i x u)).2.2⟩,O⟩ e hi (KS.refl _),?_⟩;unfold nD;rw[e,L];refine⟨rfl,?_,λ_=>⟨rfl,rfl⟩,λx u=>by cases u⟩;by_cases ho:r=[]
  ·exact .inr (by simp only;rw[zC ho])
  ·exact .inl ⟨.back,_,by simp only;rw[zB ho],trivial,(λy S=>by cases S),zO G,by simp only[qQ];rw[hhd];simp⟩
theorem WnY (h:HI H held s0)(hg:H.bR[t]?=some g){x:Int}(hph:g.ph=some (.put k x)):iH H t (.put k x)/\nD H t g (.put k x):=by
 have B:=(cY.1 hg).1;have r:=h.th g (h.mem hg);obtain⟨L,J⟩:g.bQ=[(k,[x])]/\k<H.tb.length:=by have:=r.ph;unfold iz at this;rw[hph]at this;exact this
 obtain⟨c,hc,G⟩:=h.cls J;obtain⟨l,hl,V,E,hlm⟩:=r.li J;have D:=G7 hg;have h40:=h.rH;have P:=NN (x:=x) G E;have aa:=NW c x l O;have X:(dM c x l).1.length<=129/\(dM c x l).2.os.length<=128:=by
  have ab:=E.lim;have u:(eM [x] l).os=l.os++[x]:=by unfold eM;rw[zB aE]
  have N:(mH c (eM [x] l)).os=l.os++[x]:=by rw[←u];unfold mH;split<;>rfl
  unfold cA.ok at G;unfold dM;rw[zB O];split
  ·rw[u];simp;omega
  ·simp only[gO,N,zY,ky,zK,rF];omega
 obtain⟨Q,Y⟩:=r.iv (k:=k) P X.2;have M:∃hs:List Bt,(if(dM c x l).1=[]then[]else[(k,(dM c x l).1)])=hs:=⟨_,rfl⟩
 obtain⟨i,j⟩:=M;have ac:i.length<=1:=by rw[←j];split<;>simp
 have z:∀b∈i,b.1<H.tb.length/\b.2≠[]/\b.2.length<=256:=λb m=>by
  rw[←j]at m;split at m
  ·simp at m
  ·simp only[zN]at m;subst m;exact⟨J,by assumption,by simp only;omega⟩
 have F:∀d y,mo i d y=if(k:Int)=d then(dM c x l).1.count y else 0:=λd y=>by
  rw[←j];split
  ·rename_i hn;rw[hn,V7];simp
  ·simp only[Vp,V7,ko]
 let g3:Th:={g with ls:=g.ls.set k (dM c x l).2,bQ:=i}
 let g4:Th:=if H.cf.dD<KC H.tb g3.ls then{g3 with ls:=KI Vz H.tb g3.ls,bQ:=g3.bQ++KN Vz H.tb g3.ls}else g3
 have S:iC H t k x = {H with bR:=H.bR.set t g4}:=by
  have e2:(if(dM c x l).1=[]then H.eC t λh=>h.iv k (dM c x l).2 else Ks (H.eC t λh=>h.iv k (dM c x l).2) t k (dM c x l).1) = {H with bR:=H.bR.set t {g with ls:=g.ls.set k (dM c x l).2,bQ:=(k,[x])::i}}:=by
   rw[←j];split
   ·rw[ZW hg,←L];rfl
   ·rw[ZW hg];unfold Ks;rw[ZW (g:=g.iv k (dM c x l).2) (by simp[B])];simp only[nC,Th.iv,L];rfl
  have e3:({H with bR:=H.bR.set t {g with ls:=g.ls.set k (dM c x l).2,bQ:=(k,[x])::i}}:Hw).eC t (λh=>{h with bQ:=h.bQ.drop 1}) = {H with bR:=H.bR.set t g3}:=by
   rw[ZW (g:={g with ls:=g.ls.set k (dM c x l).2,bQ:=(k,[x])::i}) (by simp[B])];simp only[nC,vz,yN];rfl
  have w:({H with bR:=H.bR.set t g3}:Hw).bR[t]?=some g3:=by simp[B]
  unfold iC;simp only[UF hc,D,V,e2,e3,G7 w,ZW w,nC];show(if H.cf.dD<KC H.tb g3.ls then _ else _)=_
  simp only[g4];split<;>rfl
 have hg4:g4.ph=g.ph:=by simp only[g4];split<;>rfl
 have U:∀d y,mg g4.ls d y+mo g4.bQ d y=mg g.ls d y+mo g.bQ d y:=λd y=>by
  have R:=AS hl (dM c x l).2 d y;have h2:=aa y;have h3:mg g3.ls d y+mo g3.bQ d y=mg g.ls d y+mo g.bQ d y:=by
   simp only[g3];rw[F,L,Vp,V7];by_cases hkk:(k:Int)=d
   ·simp only[hkk,zT]at R ⊢;omega
   ·simp only[hkk,jR]at R ⊢;omega
  simp only[g4];split
  ·have h4:=ET (f:=Vz) M9 (tb:=H.tb) (ls:=g3.ls) Q d y;simp only[Lm];omega
  ·exact h3
 have p:g4.ls.length=H.tb.length/\(∀l∈g4.ls,fP l/\l.os.length<=128)/\(∀b∈g4.bQ,b.1<H.tb.length/\b.2≠[]/\b.2.length<=256)/\g4.bQ.length<=41:=by
  have hsl:=Ea Vz H.tb g3.ls;simp only[g4];split
  ·refine⟨Fq Q,λl hl=>?_,λb m=>?_,by simp only[zK,g3]at *;omega⟩
   ·obtain⟨K,W,C,A,rfl⟩:=FK hl;have h5:=Y C A;have:=EM K C;exact⟨Ii (h.ok K W) h5.1,O⟩
   ·rcases zM.1 m with m|m
    ·exact z b m
    ·obtain⟨b1,b2,K,_,C,A,b3⟩:=JK m;have h5:=Y C A;have:=EM K C;exact⟨b1,b2,by rw[b3];omega⟩
  ·exact⟨Q,Y,z,by simp only[g3];omega⟩
 have hs:WG H t (.put k x)=({H with bR:=H.bR.set t g4},(if g4.bQ=[]then none else some .back),0,0):=by
  show(iC H t k x,kc (iC H t k x) t,0,0)=_;rw[S,DE (g:=g4) (by simp[B])]
 have e:=QC B hs;have hi:=h.kH hg (g':={g4 with ph:=if g4.bQ=[]then none else some .back}) (live':=H.live) (λd y=>by
  have R:=U d y;unfold gU;rw[hph];have:jK (if g4.bQ=[]then none else some Ph.back) d y=0:=by split<;>rfl
  simp only[this];simp only[jK];omega) h.lk (λe' he=>.inl he) (λs a Z=>by
   simp only at Z;split at Z<;>cases Z) ⟨p.1,p.2.1,p.2.2.1,p.2.2.2,by
   unfold iz;by_cases ho:g4.bQ=[]
   ·simp only[ho,zT]
   ·simp only[ho,jR];exact ho⟩
 refine⟨iH.mk' hg r.hl ⟨J,by rw[D,L];simp⟩ e hi (KS.refl _),?_⟩;unfold nD;rw[e,hs];refine⟨rfl,?_,λ_=>⟨rfl,rfl⟩,λx hx=>by cases hx⟩;by_cases ho:g4.bQ=[]
 ·exact .inr (by simp only;rw[zC ho])
 ·exact .inl ⟨.back,_,by simp only;rw[zB ho],trivial,(λy hy=>by cases hy),zO B,by simp only[qQ];have:=p.2.2.2;omega⟩
end Go.Ar
namespace Go.Ar
open Go Go.Vc Go.Proofs
open Go.Bu (fC VF Hu)
variable {U u w w':Hp}{F B P Q:Rg}{L:dE}{H H':Hw}{t n:Nat}{g:Th}
def Ai (size:Int):Int:=(size+255)/256*256
def oZ (tb:List cA)(size align:Int):Int×Int:=
 if size<=16384/\Hi size align=true then(match gZ tb size align with
  | some k=>((tb.getD k ⟨8,1,1⟩).size:Int)
  | none=>Ai size,0)else(0,1)
theorem M0 {a:Int}(h1:1<=a)(h2:a<=256):(bits .and .i64 a (a-1) != 0) = !fC a:=by
 obtain⟨a,rfl⟩:=zc (show 0<=a by omega);rw[show(a:Int)-1=((a-1:Nat):Int) by omega,Go.Bu.jh O O,VF,←Hu O O];simp only[bne,Bool.not_inj_iff];rw[j0];simp only[zU];omega
def Q1 (sp:Sp)(x:Int):Int:=if eO sp x=0 then sp.wd (x.toNat/8)else 0
theorem Bv (h:HH U F L H)(x:Int)(hx:x<=9223372036854775807){R:Int->Int->Hp->Prop}(hR:∀σ',aF U σ'->R (Q1 H.sp x) (eO H.sp x) σ'):YN.c (aW L.p) x U R:=NX h x hx hR
end Go.Ar
namespace Go.Ar
open Go Go.Vc Go.Proofs
variable {U u w w':Hp}{F B P Q:Rg}{L:dE}{H H':Hw}{t n:Nat}{g:Th}
def Kx (H:Hw)(x:Int):Option Int:=(bU H.live x).map λb=>b.2.1
theorem J6 {tb:List cA}{size align:Int}{k:Nat}(h:gZ tb size align=some k):k<tb.length:=(List.findIdx?_eq_some_iff_findIdx_eq.1 h).1
theorem FU (h:HH U F L H)(x:Int){R:Int->Int->Hp->Prop}(hR:∀σ',aF U σ'->R ((Kx H x).getD 0) (if(Kx H x).isSome then 0 else 8) σ'):XU.c (aW L.p) x U R:=by
 refine Pb h x λσ' e=>?_;have:=hR σ' e;unfold Kx at this;cases hm:bU H.live x with
 | none=>rw[hm]at this;exact this
 | some b=>rw[hm]at this;exact this
end Go.Ar
namespace Go.Ar
open Go.Vc (bU dA cO)
variable {H H':Hw}{held:List Pc}{s0:Sp}{t k j:Nat}{g:Th}{A:AR}{c:cA}
theorem Vo (f:Th->Th)(hj:j≠t):(H.eC t f).bR[j]?=H.bR[j]? := by
 simp[Hw.eC,tM,Ne.symm hj]
theorem Py (x:Int)(hj:j≠t):(iC H t k x).bR[j]?=H.bR[j]? := by
 unfold iC Ks;simp only;split<;>split<;>simp only[Vo _ hj]
theorem S4 (p:Ph)(hj:j≠t):(WG H t p).1.bR[j]?=H.bR[j]? := by
 cases p with
 | take k=>simp only[WG];split<;>simp only[V6,Vo _ hj]
 | cJ k w=>
  simp only[WG];split
  ·split
   ·unfold Ks;rw[Vo _ hj];rfl
   ·rfl
  ·rfl
 | cL k w=>
  simp only[WG];split
  ·rfl
  ·unfold Ks;rw[Vo _ hj];rfl
 | grow k w=>simp only[WG];split<;>rfl
 | fill=>simp only[WG];split<;>simp only[V6,Vo _ hj]
 | eP m=>simp only[WG];split<;>rfl
 | find x=>
  simp only[WG,Ho];split
  ·rfl
  ·split
   ·rfl
   ·unfold Ks;rw[Vo _ hj]
 | put k x=>exact Py x hj
 | back=>
  simp only[WG];split
  ·rw[DT,Vo _ hj]
  ·rfl
 | dH s a=>simp only[WG];split<;>rfl
 | drain=>simp only[WG,Vo _ hj]
theorem UM (p:Ph)(hj:j≠t):(Kd H t p).bR[j]?=H.bR[j]? := by
 unfold Kd eY;rw[Vo _ hj,S4 p hj]
def fF (H:Hw)(j:Nat):Option Ph:=(H.bR[j]?).bind (·.ph)
def xZ (H H':Hw)(t:Nat):Prop:=fF H' t=none/\∀j,j≠t->fF H' j=fF H j
theorem Eh (h:HI H held s0)(hg:H.bR[t]?=some g){p:Ph}(hp:g.ph=some p)(hf:¬lM p):∃cl sz,Rq H.tb g p cl sz:=by
 have b:=(h.th g (h.mem hg)).ph;unfold iz at b;rw[hp]at b;cases p with
 | take k=>obtain⟨c,d,_⟩:=h.cls b.2;exact⟨_,_,rfl,c,d,rfl⟩
 | cJ k w=>obtain⟨c,d,_⟩:=h.cls b.2.1;exact⟨_,_,rfl,c,d,rfl⟩
 | cL k w=>obtain⟨c,d,_⟩:=h.cls b.2.1;exact⟨_,_,rfl,c,d,rfl⟩
 | grow k w=>obtain⟨c,d,_⟩:=h.cls b.2.1;exact⟨_,_,rfl,c,d,rfl⟩
 | fill=>
  obtain⟨k,x,r,i,j,_⟩:=b;obtain⟨c,d,_⟩:=h.cls j;exact⟨_,_,k,_,[],c,i,rfl,d,rfl⟩
 | eP m=>exact⟨_,_,rfl,rfl⟩
 | find x=>exact(hf trivial).elim
 | put k x=>exact(hf trivial).elim
 | back=>exact(hf trivial).elim
 | dH s a=>exact(hf trivial).elim
 | drain=>exact(hf trivial).elim
theorem sd (h:HI H held s0)(hg:H.bR[t]?=some g){p:Ph}(hp:g.ph=some p){cl sz:Int}(hr:Rq H.tb g p cl sz):iH H t p/\uE H t p cl sz:=by
 cases p with
 | take k=>exact Wml h hg hp hr
 | cJ k w=>exact RL h hg hp hr
 | cL k w=>exact RE h hg hp hr
 | grow k w=>exact WmG h hg hp hr
 | fill=>exact M7 h hg hp hr
 | eP m=>exact NO h hg hp hr
 | find x=>exact hr.elim
 | put k x=>exact hr.elim
 | back=>exact hr.elim
 | dH s a=>exact hr.elim
 | drain=>exact hr.elim
theorem qW (h:HI H held s0)(hg:H.bR[t]?=some g){p:Ph}(hp:g.ph=some p)(hf:lM p):iH H t p/\nD H t g p:=by
 cases p with
 | take k=>exact hf.elim
 | cJ k w=>exact hf.elim
 | cL k w=>exact hf.elim
 | grow k w=>exact hf.elim
 | fill=>exact hf.elim
 | eP m=>exact hf.elim
 | find x=>exact τ h hg hp
 | put k x=>exact WnY h hg hp
 | back=>exact Tv h hg hp
 | dH s a=>exact O0 h hg hp
 | drain=>exact SY h hg hp
open Classical in
theorem HI.Ty (h:HI H held s0)(hg:H.bR[t]?=some g){p:Ph}(hp:g.ph=some p):iH H t p:=by
 by_cases hf:lM p
 ·exact(qW h hg hp hf).1
 ·obtain⟨cl,b,a⟩:=Eh h hg hp hf;exact(sd h hg hp a).1
theorem Gf {p:Ph}(ht:t<H.bR.length):∃g',(Kd H t p).bR[t]?=some g'/\g'.ph=(WG H t p).2.1:=FX ht
theorem Jf {cl sz:Int}:∀(n:Nat) {H:Hw} {held:List Pc} {s0:Sp} {g:Th} {p:Ph},HI H held s0->H.bR[t]?=some g->g.ph=some p->Rq H.tb g p cl sz->pn H t p<=n →
 ∃m H' a e,iJ m H t p H' a e/\(∃held s0,HI H' held s0)/\KS H.sp H'.sp/\xZ H H' t/\((e≠0/\a=0/\H'.live=H.live)\/(e=0/\bU H.live a=none/\H'.live=dA H.live a (a,sz,cl,Yg H'.bZ a)))
 | n,H,held,s0,g,p,h,hg,hp,hr,hn=>by
  have ht:=(cY.1 hg).1;obtain⟨s,C⟩:=sd h hg hp hr;have d:(WG H t p).2.1=none->xZ H (Kd H t p) t:=λF=>by
   obtain⟨B,x,w⟩:=Gf (p:=p) ht;exact⟨by unfold fF;rw[x];exact w.trans F,λj u=>by unfold fF;rw[UM p u]⟩
  rcases C with⟨p',B,e1,e2,e3,e4,e5⟩|⟨e1,e2,e3,e4⟩|⟨e1,e2,e3,e4⟩
  ·obtain⟨y,D,E⟩:=s.hi;obtain⟨J,i,kA⟩:=Gf (p:=p) ht;rw[e3]at i;cases i;have z:(Kd H t p).tb=H.tb:=(He H t p).1;have G:pn (Kd H t p) t p'<n:=by omega
   obtain⟨m,H',a,e,r,hi,ks,A,b⟩:=Jf (pn (Kd H t p) t p') E e3 (kA.trans e1) (by rw[z];exact e4) (zD _);refine⟨m+1,H',a,e,.next s.ok e1 r,hi,s.ks.trans ks,⟨A.1,λj u=>(A.2 j u).trans (by unfold fF;rw[UM p u])⟩,?_⟩;rw[e2]at b;exact b
  ·exact⟨1,_,_,_,.done s.ok e1,s.hi,s.ks,d e1,.inl ⟨e2,e3,e4⟩⟩
  ·exact⟨1,_,_,_,.done s.ok e1,s.hi,s.ks,d e1,.inr ⟨e2,e3,e4⟩⟩
termination_by n=>n
theorem E8:∀(n:Nat) {H:Hw} {held:List Pc} {s0:Sp} {g:Th} {p:Ph},HI H held s0->H.bR[t]?=some g->g.ph=some p->lM p->qQ g p<=n →
 ∃m H' e,iJ m H t p H' 0 e/\(∃held s0,HI H' held s0)/\KS H.sp H'.sp/\xZ H H' t/\((∀x,p≠.find x)->e=0/\H'.live=H.live) ∧
  (∀x,p=.find x->(bU H.live x=none->e≠0/\H'.live=H.live)/\(∀b,bU H.live x=some b->e=0/\H'.live=cO H.live x))
 | n,H,held,s0,g,p,h,hg,hp,hf,hn=>by
  have ht:=(cY.1 hg).1;obtain⟨s,M,K,E,a⟩:=qW h hg hp hf;rcases K with⟨p',w,e1,e2,e3,e4,e5⟩|e1
  ·obtain⟨B,L,N⟩:=s.hi;obtain⟨R,i,kA⟩:=Gf (p:=p) ht;rw[e4]at i;cases i;have Q:qQ w p'<n:=by omega
   obtain⟨m,H',e,r,hi,ks,G,y,_⟩:=E8 (qQ w p') N e4 (kA.trans e1) e2 (zD _);obtain⟨J,F⟩:=y e3;refine⟨m+1,H',e,.next s.ok e1 r,hi,s.ks.trans ks,⟨G.1,λj u=>(G.2 j u).trans (by unfold fF;rw[UM p u])⟩,λd=>⟨J,F.trans (E d).2⟩,λx d=>⟨λD=>?_,λb P=>⟨J,F.trans ((a x d).2 b P).2⟩⟩⟩;have:=((a x d).1 D).1;rw[e1]at this;cases this
  ·have A:xZ H (Kd H t p) t:=by
    obtain⟨w,C,z⟩:=Gf (p:=p) ht;exact⟨by unfold fF;rw[C];exact z.trans e1,λj u=>by unfold fF;rw[UM p u]⟩
   have r:=iJ.done (H:=H) (t:=t) s.ok e1;rw[M]at r;exact⟨1,_,_,r,s.hi,s.ks,A,E,λx d=>⟨λD=>((a x d).1 D).2,(a x d).2⟩⟩
termination_by n=>n
structure fT (H H':Hw):Prop where
 hi:∃held s0,HI H' held s0
 ks:KS H.sp H'.sp
 kp:Q0 H' H
 ph:∀j,fF H' j=fF H j
theorem fT.refl (h:HI H held s0):fT H H:=⟨⟨held,s0,h⟩,KS.refl _,Q0.refl _,λ_=>rfl⟩
theorem fT.trans {H1 H2 H3:Hw}(a:fT H1 H2)(b:fT H2 H3):fT H1 H3:=⟨b.hi,a.ks.trans b.ks,a.kp.trans b.kp,λj=>(b.ph j).trans (a.ph j)⟩
theorem FH {tb:List cA}{kind size align addr:Int}{p:Ph}(h:iR tb kind size align addr=some p)(hx:iN addr)(hh:g.bQ=[]):iz tb.length {g with ph:=some p}:=by
 unfold iR at h;split at h
 ·split at h
  ·split at h
   ·split at h
    ·rename_i k hk;cases h;exact⟨hh,J6 hk⟩
    ·cases h;exact⟨hh,O,O⟩
   ·cases h
  ·cases h
 ·split at h
  ·cases h;exact⟨hh,hx⟩
  ·split at h
   ·cases h;exact hh
   ·cases h
theorem HI.eY (h:HI H held s0)(hg:H.bR[t]?=some g)(hn:g.ph=none){p:Ph}(hp:iz H.tb.length {g with ph:=some p})(hq:∀s a,p≠.dH s a):HI (eY H t (some p)) held s0:=by
 have b:=h.th g (h.mem hg);have e:Go.Ar.eY H t (some p) = {H with bR:=H.bR.set t {g with ph:=some p}}:=ZW hg _;rw[e];refine h.kH hg (live':=H.live) (λd x=>?_) h.lk (λj i=>.inl i) (λs a hp=>by cases hp;exact(hq s a rfl).elim) ⟨b.ll,b.lo,b.hb,b.hl,hp⟩;unfold gU;rw[hn];have:jK (some p) d x=0:=by
  cases p<;>first|rfl|exact(hq _ _ rfl).elim
 simp only[this];simp only[jK]
theorem E9 (h:HI H held s0)(hg:H.bR[t]?=some g)(hn:g.ph=none):g.bQ=[]:=by
 have:=(h.th g (h.mem hg)).ph;unfold iz at this;rw[hn]at this;exact this
theorem G5 (H:Hw)(thread kind size align addr:Int):(∃e,Vb H thread kind size align addr=.inl e/\e≠0)\/∃(t:Nat) (p:Ph) (g:Th),thread=(t:Int)/\H.bR[t]?=some g/\g.ph=none/\iR H.tb kind size align addr=some p/\Vb H thread kind size align addr=.inr (t,p):=by
 unfold Vb;split
 ·split
  ·split
   ·split
    ·rename_i hth _ g hg hn _ p hp;exact .inr ⟨thread.toNat,p,g,O,hg,hn,hp,rfl⟩
    ·exact .inl ⟨1,rfl,by decide⟩
   ·exact .inl ⟨5,rfl,by decide⟩
  ·exact .inl ⟨1,rfl,by decide⟩
 ·exact .inl ⟨1,rfl,by decide⟩
theorem ON (hg:H.bR[t]?=some g)(p:Option Ph)(hj:j≠t):fF (eY H t p) j=fF H j:=by
 unfold fF eY;rw[Vo _ hj]
theorem Lh (hg:H.bR[t]?=some g)(hn:g.ph=none){p:Ph}(ps:xZ (eY H t (some p)) H' t):∀j,fF H' j=fF H j:=λj=>by
 by_cases hj:j=t
 ·subst hj;rw[ps.1];unfold fF;rw[hg];exact hn.symm
 ·rw[ps.2 j hj,ON hg _ hj]
def rY (H:Hw)(size align:Int)(H':Hw)(a e:Int):Prop:=(e≠0/\a=0/\H'.live=H.live) ∨
 (e=0/\bU H.live a=none/\(1<=size/\size<=16384/\Hi size align=true)/\∃cl,H'.live=dA H.live a (a,(oZ H.tb size align).1,cl,Yg H'.bZ a)/\((∃k:Nat,cl=k/\gZ H.tb size align=some k)\/cl = -1/\gZ H.tb size align=none))
theorem RF (h:HI H held s0)(thread size align:Int):∃H' a e,KM H thread 0 size align 0 H' a e/\fT H H'/\rY H size align H' a e:=by
 rcases G5 H thread 0 size align 0 with⟨e,hs,hne⟩|⟨t,p,g,rfl,hg,hn,hq,hs⟩
 ·exact⟨H,0,e,.inl ⟨hs,hne,rfl,rfl⟩,fT.refl h,.inl ⟨hne,rfl,rfl⟩⟩
 ·have D:=E9 h hg hn;have i:=FH (g:=g) hq (by unfold iN;decide) D;unfold iR at hq;rw[zC rfl]at hq;split at hq
  ·rename_i hsz;split at hq
   ·rename_i hok;have b:oZ H.tb size align=(match gZ H.tb size align with
     | some k=>((H.tb.getD k ⟨8,1,1⟩).size:Int)
     | none=>Ai size,0):=by
     unfold oZ;rw[zC ⟨hsz.2,hok⟩]
     first|done | (cases gZ H.tb size align<;>rfl)
    obtain⟨cl,d,u⟩:∃cl,Rq H.tb {g with ph:=some p} p cl (oZ H.tb size align).1/\((∃k:Nat,cl=k/\gZ H.tb size align=some k)\/cl = -1/\gZ H.tb size align=none):=by
     cases hcv:gZ H.tb size align with
     | some k=>
      rw[hcv]at hq b;cases hq;have y:=J6 hcv;have z:H.tb[k]?=some H.tb[k]:=cW y;refine⟨k,⟨rfl,H.tb[k],z,?_⟩,.inl ⟨k,rfl,rfl⟩⟩;rw[b];simp only;rw[zQ,z];rfl
     | none=>
      rw[hcv]at hq b;cases hq;refine⟨-1,⟨rfl,?_⟩,.inr ⟨rfl,rfl⟩⟩;rw[b];simp only;unfold Ai;omega
    have w:∀s a,p≠.dH s a:=λs a e=>by subst e;exact d.elim
    have A:=h.eY hg hn i w;have x:(Go.Ar.eY H t (some p)).bR[t]?=some {g with ph:=some p}:=by
     have C:=(cY.1 hg).1;have e:Go.Ar.eY H t (some p) = {H with bR:=H.bR.set t {g with ph:=some p}}:=ZW hg _;rw[e];simp[C]
    obtain⟨m,H',a,e,r,hi,ks,B,j⟩:=Jf _ A x rfl d (zD _);refine⟨H',a,e,.inr ⟨t,p,m,hs,r⟩,⟨hi,ks,(Vx _ _ _).trans (JD r),Lh hg hn B⟩,?_⟩;rcases j with⟨r1,r2,r3⟩|⟨r1,r2,r3⟩
    ·exact .inl ⟨r1,r2,r3⟩
    ·exact .inr ⟨r1,r2,⟨hsz.1,hsz.2,hok⟩,cl,r3,u⟩
   ·cases hq
  ·cases hq
def nO (H:Hw)(thread addr:Int)(H':Hw)(e:Int):Prop:=
 (e≠0/\H'=H/\Vb H thread 1 0 0 addr=.inl e)\/((∃p,Vb H thread 1 0 0 addr=.inr p)/\bU H.live addr=none/\e≠0/\H'.live=H.live)\/((∃p,Vb H thread 1 0 0 addr=.inr p)/\∃b,bU H.live addr=some b/\e=0/\H'.live=cO H.live addr)
theorem Sb (h:HI H held s0)(hg:H.bR[t]?=some g)(hn:g.ph=none){p:Ph}(hp:iz H.tb.length {g with ph:=some p})(hf:lM p)(hq:∀s a,p≠.dH s a):∃m H' e,iJ m (eY H t (some p)) t p H' 0 e/\fT H H'/\((∀x,p≠.find x)->e=0/\H'.live=H.live) ∧
 (∀x,p=.find x->(bU H.live x=none->e≠0/\H'.live=H.live)/\(∀b,bU H.live x=some b->e=0/\H'.live=cO H.live x)):=by
 have u:=h.eY hg hn hp hq;have d:(Go.Ar.eY H t (some p)).bR[t]?=some {g with ph:=some p}:=by
  have w:=(cY.1 hg).1;have e:Go.Ar.eY H t (some p) = {H with bR:=H.bR.set t {g with ph:=some p}}:=ZW hg _;rw[e];simp[w]
 obtain⟨m,H',e,r,hi,ks,i,j,y⟩:=E8 _ u d rfl hf (zD _);exact⟨m,H',e,r,⟨hi,ks,(Vx _ _ _).trans (JD r),Lh hg hn i⟩,j,y⟩
theorem Sf (h:HI H held s0)(thread addr:Int)(hx:iN addr):∃H' e,KM H thread 1 0 0 addr H' 0 e/\fT H H'/\nO H thread addr H' e:=by
 rcases G5 H thread 1 0 0 addr with⟨e,hs,hne⟩|⟨t,p,g,rfl,hg,hn,hq,hs⟩
 ·exact⟨H,e,.inl ⟨hs,hne,rfl,rfl⟩,fT.refl h,.inl ⟨hne,rfl,hs⟩⟩
 ·have d:=FH (g:=g) hq hx (E9 h hg hn);have j:p=.find addr:=by unfold iR at hq;simp at hq;exact hq.symm
  subst j;obtain⟨m,H',e,r,op,_,i⟩:=Sb h hg hn d trivial (λs a e=>by cases e);refine⟨H',e,.inr ⟨t,_,m,hs,r⟩,op,?_⟩;cases hm:bU H.live addr with
  | none=>exact .inr (.inl ⟨⟨_,hs⟩,hm,(i addr rfl).1 hm⟩)
  | some b=>exact .inr (.inr ⟨⟨_,hs⟩,b,hm,(i addr rfl).2 b hm⟩)
end Go.Ar
namespace Go.Ar
open Go Go.Vc Go.Proofs
variable {U u w w':Hp}{F B P Q:Rg}{L:dE}{H H':Hw}{t n k:Nat}{A:AR}{Y:Lay}
theorem Fr.refl (A:AR):Fr A A:=⟨rfl,rfl,rfl⟩
theorem Fr.trans {A B C:AR}(h:Fr B A)(k:Fr C B):Fr C A:=⟨k.1.trans h.1,k.2.1.trans h.2.1,k.2.2.trans h.2.2⟩
end Go.Ar
namespace Go.Ar
variable {A:AR}
def rm (tb:List cA)(n room m:Nat):Wd:=⟨tb,V8 n,List.replicate m (fG n room tb),[]⟩
theorem N4 {n room:Nat}{tb:List cA}(h1:32<=n)(h2:n<=1024)(h3:n%16=0)(h6:tb.length<=40)(h7:∀c∈tb,c.ok):GA (fG n room tb)/\∀p,(fG n room tb).f p=0:=by
 have g:∀p,(fG n room tb).f p=0:=λp=>by
  show(List.replicate n 0).getD p 0=0;rw[zQ,m6];split<;>rfl
 have b:∀{k:Nat} {i:List cH},(List.replicate tb.length ([]:List cH))[k]?=some i->i=[]:=λh=>by
  rw[m6]at h;split at h<;>simp at h;exact h
 have a:∀{k:Nat} {t:gT},(List.replicate tb.length (⟨0,[]⟩:gT))[k]?=some t->t.bs=[]:=λh=>by
  rw[m6]at h;split at h<;>simp at h;rw[←h]
 refine⟨⟨⟨by simp[fG],h1,h2,h3,λp=>by rw[g];omega,λp=>by rw[g];simp[fG],λp=>by rw[g];simp[fG,Go.Bu.iE],λp=>by rw[g,g]⟩,h6,by simp[fG],by simp[fG],λk c i d=>?_,λk c i d s m=>?_,λk c i d p=>?_,λp=>?_,λp=>.inr (Nat.zero_le _),by simp[fG],by simp[fG],λk t j=>?_,λk c i t d j=>?_,λk c t d j=>?_⟩,g⟩
 ·have e:=b d.2;subst e;exact⟨h7 c (zG d.1),by simp,by simp⟩
 ·have e:=b d.2;subst e;simp at m
 ·have e:=b d.2;subst e;constructor
  ·intro h;cases h
  ·rintro⟨s,m,_⟩;simp at m
 ·constructor
  ·intro h;cases h
  ·rintro⟨r,hr,_⟩;simp[fG]at hr
 ·have:=a j;rw[this];exact uD
 ·have:=a j;rw[this];simp
 ·have:=a j;rw[this];simp
theorem NQ {tb:List cA}{n room m:Nat}(h1:32<=n)(h2:n<=1024)(h3:n%16=0)(h6:tb.length<=40)(h7:∀c∈tb,c.ok):WI (rm tb n room m):=by
 obtain⟨w,d⟩:=N4 (room:=room) h1 h2 h3 h6 h7;have get:∀{k:Nat} {A:AR},(rm tb n room m).bZ[k]?=some A->A=fG n room tb:=λ{k A} h=>by
  have h:(List.replicate m (fG n room tb))[k]?=some A:=h;rw[m6]at h;split at h<;>simp at h;exact h.symm
 have b:∀p,gf (V8 n).st p=0:=λp=>by
  show(List.replicate n 0).getD p 0=0;rw[zQ,m6];split<;>rfl
 refine⟨λk A h=>by rw[get h];exact w,λk A h=>?_,λk A h=>by rw[get h];rfl,λk A h p a=>by rw[get h];exact d p,λp a=>(a (b p)).elim,λp k l A B D G h1 h2=>?_,uD,λp a=>by simp[rm]at a,λk A h j y z=>?_,λk A h r x=>?_⟩
 ·rw[get h];exact⟨by simp[rm,V8,fG],λp a=>(a (d p)).elim,λp a=>by rw[d p]at a;omega,λp=>by show gf (V8 n).st p<=2;rw[b];omega⟩
 ·rw[get D]at h1;exact(h1 (d p)).elim
 ·rw[get h]at z;obtain⟨c,F,u,E⟩:=z;have g:F=[]:=by
   have h2:=u.2;simp only[fG]at h2;rw[m6]at h2;split at h2<;>simp at h2;exact h2
  subst g;obtain⟨H,s,i,C,_⟩:=(Uf (w.cG _ _ _ u)).1 E;simp at C
 ·rw[get h]at x;simp[fG]at x
end Go.Ar
namespace Go.Ar
open Go.Vc (bU dA cO)
variable {H H':Hw}{held:List Pc}{s0:Sp}{t k j:Nat}{g:Th}{A:AR}{c:cA}
theorem Nt {tb:List cA}{cf:Cf}(h1:32<=cf.aG)(h2:cf.aG<=1024)(h3:cf.aG%16=0)(h4:1<=cf.ij)(h6:tb.length<=40)(h7:∀c∈tb,c.ok):HI (Uu tb cf) [] (V8 cf.aG):=by
 have w:=NQ (tb:=tb) (n:=cf.aG) (room:=cf.room) (m:=cf.ij) h1 h2 h3 h6 h7;have i:∀g∈(Uu tb cf).bR,g=⟨List.replicate tb.length ir,[],none⟩:=λg d=>(A6.1 d).2;have r:∀k,(List.replicate tb.length ir).getD k ir=ir:=λk=>by
  rw[zQ,m6];split<;>rfl
 refine⟨w,jH.refl _,λk x=>?_,uD,λe B=>by simp[Uu]at B,λg d s a j=>?_,λg d=>?_,h7,?_,?_⟩
 ·have z:∀(n:Nat) (f:Th->Nat) (g:Th),f g=0->((List.replicate n g).map f).sum=0:=λn f g h=>by
   rw[wy,h]
   induction n with
   | zero=>rfl
   | succ n ih=>rw[sk,oB,ih]
  have u:gU ⟨List.replicate tb.length ir,[],none⟩ k x=0:=by
   unfold gU mg;split
   ·simp only[r];rfl
   ·rfl
  have:rU (Uu tb cf) k x=0:=by
   unfold rU;show mC [] k x+((List.replicate cf.threads (⟨List.replicate tb.length ir,[],none⟩:Th)).map λg=>gU g k x).sum=0;rw[z _ _ _ u];rfl
  rw[this,K0];rintro⟨p,j,_⟩;simp at j
 ·rw[i g d]at j;cases j
 ·rw[i g d];refine⟨by simp[Uu],λl y=>?_,λb A=>by simp at A,by simp,by unfold iz;rfl⟩;rw[(A6.1 y).2];exact⟨fP.nil,by simp[ir]⟩
 ·show 1<=(List.replicate cf.ij (fG cf.aG cf.room tb)).length;simpa using h4
 ·show(List.replicate cf.aG 0).length=cf.aG;simp
def KL (H H':Hw):Prop:=∀e∈H.live,∀w:Nat,e.1<=((8*w:Nat):Int)->((8*w:Nat):Int)<e.1+e.2.2.1->H'.sp.wd w=H.sp.wd w
theorem HI.Ac (h:HI H held s0):WI ⟨H.tb,s0,H.bZ,held⟩:=h.wi
theorem HI.mapped (h:HI H held s0){p:Pc}(hp:p∈held){x:Nat}(h1:p.addr<=x)(h2:x<p.addr+p.size):gf H.sp.st (x/256)≠0:=by
 obtain⟨A,a,_⟩:=h.wi.hf p hp;have e1:=h.wi.pO hp a h1 h2;have:=(h.wi.ow _ A a).own (x/256) O;intro hz;exact this ((h.nf.z _).1 hz)
theorem HI.kl (h:HI H held s0)(k:KS H.sp H'.sp):KL H H':=λe d w i m=>by
 obtain⟨_,p,a,_,_,g,j,_⟩:=h.lv e d;have b:=h.mapped a (x:=8*w) O O;exact(k.k _ b).2 w O
theorem KL.refl (H:Hw):KL H H:=λ_ _ _ _ _=>rfl
theorem KL.trans {H1 H2 H3:Hw}(a:KL H1 H2)(b:KL H2 H3)(hl:∀e∈H1.live,e∈H2.live):KL H1 H3:=λe i w d g=>(b e (hl e i) w d g).trans (a e i w d g)
structure mN (H H':Hw):Prop where
 hi:∃held s0,HI H' held s0
 live:H'.live=H.live
 bR:H'.bR=H.bR
 kp:Q0 H' H
 kl:KL H H'
theorem mN.refl (h:HI H held s0):mN H H:=⟨⟨_,_,h⟩,rfl,rfl,Q0.refl _,KL.refl _⟩
theorem mN.trans {H1 H2 H3:Hw}(a:mN H1 H2)(b:mN H2 H3):mN H1 H3:=⟨b.hi,b.live.trans a.live,b.bR.trans a.bR,a.kp.trans b.kp,a.kl.trans b.kl λe d=>by rw[a.live];exact d⟩
theorem HI.n (h:HI H held s0)(hk:H.bZ[k]?=some A):A.n=H.cf.aG:=by
 have:=(h.wi.ow k A hk).l;have b:=h.nf.l;have a:=h.sl;simp only at this;omega
theorem WI.wd {W:Wd}(h:WI W)(f:Nat->Int):WI {W with sp:={W.sp with wd:=f}}:=
 ⟨h.ga,λk A hk=>⟨(h.ow k A hk).l,(h.ow k A hk).own,(h.ow k A hk).cl,(h.ow k A hk).le⟩,h.tb,h.low,h.own,h.one,h.hk,h.hf,h.ht,h.hr⟩
theorem JY {sp:Sp}{x:Int}(h:eO sp x=0):0<=x/\x%8=0/\gf sp.st (x.toNat/256)≠0:=by
 unfold eO at h;split at h
 ·cases h
 ·split at h
  ·cases h
  ·exact⟨O,O,by assumption⟩
theorem Dr (sp:Sp)(x v:Int):(ZI sp x v).st.length=sp.st.length/\(∀p,gf (ZI sp x v).st p=0↔gf sp.st p=0)/\∀w,(ZI sp x v).wd w=if eO sp x=0/\w=x.toNat/8 then v else sp.wd w:=by
 unfold ZI;split
 ·rename_i h0;have a:=JY h0;refine⟨by simp[nH],λp=>?_,λw=>?_⟩
  ·show gf (sp.st.set (x.toNat/8/32) 2) p=0↔_;have b:x.toNat/8/32=x.toNat/256:=by omega
   rw[b];unfold gf at a ⊢;rw[zQ]at a ⊢;rw[zQ,nB];split
   ·rename_i he;split
    ·rw[←he];simp only[qG];exact⟨λh=>O,λh=>(a.2.2 h).elim⟩
    ·rename_i hl;rw[zX O]at a;exact(a.2.2 rfl).elim
   ·exact Iff.rfl
  ·show(if w=x.toNat/8 then v else sp.wd w)=_
   by_cases hw:w=x.toNat/8
   ·rw[zC hw,zC ⟨h0,hw⟩]
   ·rw[zB hw,zB λh=>hw h.2]
 ·exact⟨rfl,λ_=>Iff.rfl,λw=>by rw[zB λh=>by have:=h.1;contradiction]⟩
theorem HI.write (h:HI H held s0)(x v:Int):HI {H with sp:=ZI H.sp x v} held {s0 with wd:=(ZI H.sp x v).wd}:=by
 obtain⟨a,b,_⟩:=Dr H.sp x v;exact⟨h.wi.wd _,⟨a.trans h.nf.l,λp=>(b p).trans (h.nf.z p),rfl⟩,h.cn,h.lk,h.lv,h.gv,h.th,h.ok,h.a1,a.trans h.sl⟩
end Go.Ar
namespace Go.Ar
open Go Go.Vc Go.Proofs
variable {U u w w':Hp}{F B P Q:Rg}{L:dE}{H H':Hw}{t n:Nat}{g:Th}
end Go.Ar
namespace Go.Proofs
open Go.Vc
set_option maxRecDepth 100000
def Xh.h:Hn:=.q .o2 (.q (.q (.cU (.seq [.op,.op,.op,.cX false 2 [.op,.op]])) .aJ) (.q .o1 (.q .o1 (.q (.k (.loop [(4,.one .s),(5,.I)] (.q (.q .o2 (.c .l .l)) (.k (.q .o7 .o6))))) (.q .o6 (.q .o1 (.q (.q .o1 (.k (.loop [(6,.one .s),(7,.I)] (.q (.q .o4 (.c .l .l)) (.q (.k (.q (.cU (.gP true [] [(70,.one .b)] (.tk [0,1,2,3,4,5] (.split 43 (.tk [6,7,8,9,10,11,12,13,14,15,16,17,18,19,20,21,22,23,24,25,26,27,28,29,30,31,32] (.done)) (.tk [6,7,8,9,10,11,12,13,14,15,16,17,18,19] (.split 57 (.tk [20,21,22,23,24,25,26,27,28,29,30,31,32] (.done)) (.tk [20,21,22,23,25,26,27,28,29] (.all [(24,.all [(30,.take 31 (.take 32 (.done)))])])))))))) (.c .o8 .l))) .o3))))) (.q .o3 .l))))))))
def Xh.v (a:Int)(b:Hp)(c:Sl->Int->Hp->Prop):Prop:=bX (λd e=>If d (c ⟨none,0,0⟩ 1 e) (X8 [.s,bO] (λf=>f ⟨none,0,0⟩ 8 e) λg (h:Sl) (i:Int) j=>If (i<512) (Xx.c i a j λk l m n=>aV #[.I k,.I l,.I m] 149 n λo p=>App h 3 24 149 [.I 0,.I 0,.I 0] ⟨some o,1,1⟩ p λq r=>X9.c i a r λs t=>bM (i+s) λu=>g q u t) (Xx.c 512 a j λv w x y=>aV #[.I v,.I w,.I x] 149 y λz aa=>App h 3 24 149 [.I 0,.I 0,.I 0] ⟨some z,1,1⟩ aa λab ac=>X8 [.s,bO] (λad=>ad ⟨none,0,0⟩ 0 ac) λae (af:Sl) (ag:Int) ah=>If (ag<((ab.len:Nat):Int)) (Jn [.b] (λ(ai:Bool) aj=>If ai (Ix ab.a ab.len ag 3 λak=>aQ ak 0 aj λal=>aQ ak 1 aj λam=>aQ ak 2 aj λan=>aV #[.I al,.I am,.I an] 149 aj λao ap=>App af 3 24 149 [.I 0,.I 0,.I 0] ⟨some ao,1,1⟩ ap λaq ar=>bM (ag+1) λau=>ae aq au ar) (bM (ag+1) λav=>ae af av aj)) λaw=>dW ah λax=>bM (((ab.len:Nat):Int)-1) λay=>If (ag==ay) (aw true ah) (Ix ab.a ab.len ag 3 λaz=>aS ax az 1 λa0=>bM (ag+1) λa1=>Ix ab.a ab.len a1 3 λa2=>aS ax a2 1 λa3=>If (a0 != a3) (aw true ah) (Ix ab.a ab.len ag 3 λa4=>aS ax a4 0 λa5=>aS ax a4 1 λa6=>aS ax a4 2 λa7=>bM (ag+1) λa8=>Ix ab.a ab.len a8 3 λa9=>aS ax a9 0 λba=>aS ax a9 1 λbb=>aS ax a9 2 λbc=>Xd.c a5 a6 a7 ah λbd be=>
 And (ax be) <| Xd.c ba bb bc be λbf bg=>And (ax bg) <| aw (bd != bf) bg))) (c af 0 ah)))) λbh=>If (a<2) (bh true b) (bh (decide (a>16)) b)
theorem Xh.o {a b c}(d:Xh.v a b c):Xh.c a b c:=Wa Tryz.func96 (x:=Xh.h) (R0 d)
def Xx.h:Hn:=.q .o1 (.q .o8 (.q (.q .o1 (.k (.loop [(6,.I)] (.q (.q .o2 (.c .l .l)) (.q (.k (.q (.cU (.seq [.op,.op,.op,.op,.op,.cX true 9 (RI.ops 9)])) (.c .o3 .l))) .o3))))) .aL))
def Xx.v (a b:Int)(c:Hp)(d:Int->Int->Int->Hp->Prop):Prop:=aV #[.I 0,.I 0,.I 0] 149 c λe f=>Nz a<|bM ((512:Int).tdiv a) λg=>aV #[.I 0,.I 0,.I 0] 149 f λh i=>aR h 0 (.I a) i λj=>aR h 1 (.I 4) j λk=>aR h 2 (.I (if 32<(if 2>g then 2 else g)then 32 else(if 2>g then 2 else g))) k λl=>X8 [bO] (λm=>m 4 l) λn (o:Int) p=>If (o≥1) (bM (o*256) λq=>bX (λr s=>If r (aR h 1 (.I o) s λt=>bM (o-1) λu=>n u t) (bM (o-1) λv=>n v s)) λw=>If (q≥a) (bM (o*256) λx=>Nz a <| bM (b*(x.tmod a)) λy=>bM (o*256) λz=>w (decide (y<=z)) p) (w false p)) (aQ h 0 p λaa=>aQ h 1 p λab=>aQ h 2 p λac=>aR e 0 (.I aa) p λad=>aR e 1 (.I ab) ad λae=>aR e 2 (.I ac) ae λaf=>aQ e 0 af λag=>aQ e 1 af λah=>aQ e 2 af λai=>d ag ah ai af)
theorem Xx.o {a b c d}(e:Xx.v a b c d):Xx.c a b c d:=Wa Tryz.func148 (x:=Xx.h) (R0 e)
def X9.h:Hn:=.q .o1 (.q .o1 (.q (.k (.loop [(5,.I)] (.q (.q .o6 (.c .l .l)) (.k .o3)))) .aL))
def X9.v (a b:Int)(c:Hp)(d:aN):Prop:=X8 [bO] (λe=>e 8 c) λf (g:Int) h=>bM (2*g) λi=>Nz b<|bM (a.tdiv b) λj=>If (i<=j) (bM (2*g) λk=>f k h) (d g h)
theorem X9.o {a b c d}(e:X9.v a b c d):X9.c a b c d:=Wa Tryz.func149 (x:=X9.h) (R0 e)
def Xd.h:Hn:=.q .o2 (.q .o1 (.q (.k (.loop [(3,.I)] (.q (.q .o9 (.c .l .l)) (.k .o3)))) .aL))
def Xd.v (a b c:Int)(d:Hp)(e:aN):Prop:=aV #[.I a,.I b,.I c] 149 d λf g=>X8 [bO] (λh=>h 0 g) λi (j:Int) k=>bM (j+1) λl=>aQ f 0 k λm=>bM (l*m) λn=>aQ f 1 k λo=>bM (o*256) λp=>If (n<=p) (bM (j+1) λq=>i q k) (e j k)
theorem Xd.o {a b c d e}(f:Xd.v a b c d e):Xd.c a b c d e:=Wa Tryz.func150 (x:=Xd.h) (R0 f)
end Go.Proofs
namespace Go.Ar
open Go Go.Vc Go.Proofs
variable {U w:Hp}
abbrev T3:=Int×Int×Int
def v3 (x:T3):List Value:=[.int .i64 x.1,.int .i64 x.2.1,.int .i64 x.2.2]
def lQ (l:List T3):List Value:=l.flatMap v3
theorem Dt (l:List T3):(lQ l).length=l.length*3:=by
 induction l with
 | nil=>rfl
 | cons x l ih=>simp only[lQ,pA,zK,v3,zS,lA]at *;omega
theorem RM (l:List T3)(x:T3):lQ (l++[x])=lQ l++v3 x:=by simp[lQ]
theorem AY:∀{l:List T3} {i:Nat} {x:T3},l[i]?=some x->∀{d:Nat},d<3->(lQ l)[i*3+d]?=(v3 x)[d]?
 | [],_,_,h,_,_=>by simp at h
 | y::l,0,x,h,d,hd=>by
  simp at h;subst h;have e:lQ (y::l)=v3 y++lQ l:=rfl;rw[e,zd (by simp[v3];omega)];congr 1;omega
 | y::l,i+1,x,h,d,hd=>by
  have e:lQ (y::l)=v3 y++lQ l:=rfl;have a:(v3 y).length=3:=rfl;rw[e,zp O,a,show(i+1)*3+d-3=i*3+d by omega];exact AY (by simpa using h) hd
theorem Ft {Q:Rg}{s:Sl}{l:List T3}(h:Go.Vc.Own Q U s 3 (lQ l)):iy U s l:=by
 have u:=h.1;rw[Dt]at u;refine⟨O,λi x y z g=>?_⟩;obtain⟨b,d,m⟩:=h.cell (j:=i*3+0) (v:=.int .i64 x) ((AY g O).trans rfl);obtain⟨w,a,p⟩:=h.cell (j:=i*3+1) (v:=.int .i64 y) ((AY g O).trans rfl);rw[d]at a;cases a;obtain⟨w,a,r⟩:=h.cell (j:=i*3+2) (v:=.int .i64 z) ((AY g O).trans rfl);rw[d]at a;cases a;refine⟨b,0,d,KU m,?_,?_,?_⟩
 ·rw[show 0+i*3=i*3+0 by omega];exact m
 ·rw[show 0+i*3+1=i*3+1 by omega];exact p
 ·rw[show 0+i*3+2=i*3+2 by omega];exact r
def uO (s w:Int)(n:Nat):Int:=([4,3,2,1].take n).foldl (λ(r p:Int)=>if s<=p*256/\w*((p*256)%s)<=p*256 then p else r) 4
def A9 (s:Int):Int:=min 32 (max 2 (512/s))
def lu (s w:Int):T3:=(s,uO s w 4,A9 s)
def wQ:Nat->Int->Int->Int
 | 0,d,_=>d
 | n+1,d,q=>if 2*d<=q then wQ n (2*d) q else d
def yw (s w:Int):Int:=wQ 8 8 (s/w)
def mU (x:T3):Int:=x.2.1*256/x.1
theorem TT (s w:Int)(n:Nat):1<=uO s w n/\uO s w n<=4:=by
 have key:∀(l:List Int) (r:Int),(∀p∈l,1<=p/\p<=4)->1<=r/\r<=4->1<=l.foldl (λ(r p:Int)=>if s<=p*256/\w*((p*256)%s)<=p*256 then p else r) r/\l.foldl (λ(r p:Int)=>if s<=p*256/\w*((p*256)%s)<=p*256 then p else r) r<=4:=by
  intro l
  induction l with
  | nil=>intro r _ h;exact h
  | cons p l ih=>
   intro r hl hr;rw[si];refine ih _ (λq b=>hl q (mc _ b)) ?_;split
   ·exact hl p mO
   ·exact hr
 refine key _ _ (λp a=>?_) O;have:=uf a;simp at this;omega
theorem Is (s w:Int)(h1:8<=s)(h2:s<=512)(hw1:2<=w)(hw2:w<=16){R:Int->Int->Int->Hp->Prop}(hR:∀σ',aF U σ'->R (lu s w).1 (lu s w).2.1 (lu s w).2.2 σ'):Xx.c s w U R:=by
 refine Xx.o ?_;unfold Xx.v;have P:1<=512/s/\512/s<=64:=⟨by rw[Int.le_ediv_iff_mul_le O];omega,Int.ediv_le_of_le_mul O O⟩;refine nw (cs:=[.int .i64 0,.int .i64 0,.int .i64 0]) λv hz e H=>nz O (ar (by rw[YS O];omega) (by rw[YS O];omega) ?_);rw[YS O];refine nw (cs:=[.int .i64 0,.int .i64 0,.int .i64 0]) λv1 N e1 A=>A.s1 aA λv2 o2 C=>C.s1 aA λQ o3 j=>j.s1 aA λv4 o4 b4=>?_;have b:U.size≠v.size:=by omega
 have y:=WE o4 (WE o3 (WE o2 (e1.bV H id) b) b) b;have X:aF U v4:=((((e.trans e1).only o2 (.inr O)).only o3 (.inr O)).only o4 (.inr O));have p:(if 32<(if 2>512/s then 2 else 512/s)then 32 else(if 2>512/s then 2 else 512/s))=A9 s:=by unfold A9;omega
 rw[p]at b4;refine Qz (a:=bO) (λ(z:Int) u=>∃n:Nat,n<=4/\z=4-(n:Int)/\aF U u/\bY u U.size [.int .i64 0,.int .i64 0,.int .i64 0]/\bY u v.size [.int .i64 s,.int .i64 (uO s w n),.int .i64 (A9 s)]) (λz _=>z.toNat) ⟨0,O,rfl,X,y,b4⟩ ?_;rintro(z:Int) u ⟨n,hn,rfl,eu,hu,bu⟩;refine cP (λZ=>?_) λL=>?_
 ·have Y:n<4:=by omega
  have d:uO s w (n+1)=if s<=(4-(n:Int))*256/\w*(((4-(n:Int))*256)%s)<=(4-(n:Int))*256 then 4-(n:Int)else uO s w n:=by
   have ht:([4,3,2,1]:List Int)[n]?=some (4-(n:Int)):=by
    rcases(show n=0\/n=1\/n=2\/n=3 by omega)with rfl|rfl|rfl|rfl<;>rfl
   unfold uO
   rw[ka,ht,vn];rfl
  refine ar O O ?_;refine Kr (λr G=>G=u/\r=decide (s<=(4-(n:Int))*256/\w*(((4-(n:Int))*256)%s)<=(4-(n:Int))*256)) (λr G ⟨E,x⟩=>?_) λJ F=>?_
  ·subst E;by_cases hc:s<=(4-(n:Int))*256/\w*(((4-(n:Int))*256)%s)<=(4-(n:Int))*256
   ·rw[zI hc]at x;rw[zC hc]at d;refine cF x (bu.s1 aA λW o1 D=>ar O O ⟨⟨n+1,O,O,eu.only o1 (.inr O),WE o1 hu b,by rw[d];exact D⟩,O⟩)
   ·rw[zJ hc]at x;rw[zB hc]at d;exact cD x (ar O O ⟨⟨n+1,O,O,eu,hu,by rw[d];exact bu⟩,O⟩)
  ·have m:=Int.emod_nonneg ((4-(n:Int))*256) (show s≠0 by omega);have V:=Int.emod_lt_of_pos ((4-(n:Int))*256) (show 0<s by omega);have S:w*(((4-(n:Int))*256)%s)<=16*512:=Int.mul_le_mul hw2 O m O;have M:0<=w*(((4-(n:Int))*256)%s):=Int.mul_nonneg O m;refine cP (λh1=>ar O O (nz O ?_)) λh1=>F _ _ ⟨rfl,(zJ λg=>h1 g.1).symm⟩;rw[Kh O];refine ar O O (ar O O (F _ _ ⟨rfl,?_⟩));rw[decide_eq_decide];exact⟨λg=>⟨h1,g⟩,λg=>g.2⟩
 ·have B:n=4:=by omega
  subst B;refine bu.rI rfl (bu.rI rfl (bu.rI rfl (hu.s1 aA λW o1 D=>D.s1 aA λu2 o2 C=>C.s1 aA λK o3 j=>j.rI rfl (j.rI rfl (j.rI rfl (hR K ?_))))));exact((eu.only o1 (.inr O)).only o2 (.inr O)).only o3 (.inr O)
theorem LY (s w:Int)(h1:8<=s)(h2:s<=512)(hw1:2<=w){R:aN}(hR:8<=yw s w->yw s w<=256->R (yw s w) U):X9.c s w U R:=by
 refine X9.o ?_;unfold X9.v;have m:0<=s/w/\s/w<=256:=⟨Int.ediv_nonneg O O,by
  have:s/w<=s/2:=by
   apply Int.le_ediv_of_mul_le O;have:=Int.ediv_mul_le s (show w≠0 by omega);have j:s/w*2<=s/w*w:=Int.mul_le_mul_of_nonneg_left hw1 (Int.ediv_nonneg O O);omega
  omega⟩
 refine Qz (a:=bO) (λ(d:Int) u=>u=U/\∃n:Nat,wQ n d (s/w)=yw s w/\8<=d/\d<=256/\512<=d*2^n) (λd _=>1000-d.toNat) ⟨rfl,8,rfl,O,O,by decide⟩ ?_;rintro(d:Int) u ⟨rfl,n,hst,hd1,hd2,hdn⟩;refine ar O O (nz O (ar (by rw[YS O];omega) (by rw[YS O];omega) ?_));rw[YS O];cases n with
 | zero=>simp at hdn;omega
 | succ n=>
  refine cP (λg=>ar O O ⟨⟨rfl,n,?_,O,O,?_⟩,O⟩) λb=>?_
  ·rw[wQ,zC g]at hst;exact hst
  ·rw[Int.pow_succ]at hdn;have:2*d*2^n=d*(2^n*2):=by rw[Int.mul_comm 2 d,Int.mul_assoc,Int.mul_comm 2 (2^n)]
   omega
  ·rw[wQ,zB b]at hst;rw[←hst]at hR;exact hR hd1 hd2
theorem Jp (x:T3)(h1:8<=x.1)(h2:x.1<=512)(h3:1<=x.2.1)(h4:x.2.1<=4){R:aN}(hR:∀σ',aF U σ'->R (mU x) σ'):Xd.c x.1 x.2.1 x.2.2 U R:=by
 refine Xd.o ?_;unfold Xd.v;refine nw (cs:=[.int .i64 x.1,.int .i64 x.2.1,.int .i64 x.2.2]) λv p e m=>?_;refine Qz (a:=bO) (λ(n:Int) u=>aF U u/\bY u U.size [.int .i64 x.1,.int .i64 x.2.1,.int .i64 x.2.2]/\0<=n/\n<=128/\n*x.1<=x.2.1*256) (λn _=>1000-n.toNat) ⟨e,m,O,O,O⟩ ?_;rintro(n:Int) u ⟨eu,bu,hn0,hn1,hn⟩;have r:(n+1)*x.1<=129*512:=Int.mul_le_mul O h2 O O;have g:0<=(n+1)*x.1:=Int.mul_nonneg O O;refine ar O O (bu.rI rfl (ar O O (bu.rI rfl (ar O O ?_))));refine cP (λb=>ar O O ⟨⟨eu,bu,O,?_,b⟩,O⟩) λj=>?_
 ·have:(n+1)*8<=(n+1)*x.1:=Int.mul_le_mul_of_nonneg_left h1 O;omega
 ·have:mU x=n:=by
   unfold mU;have s:n<=x.2.1*256/x.1:=(Int.le_ediv_iff_mul_le O).2 hn;have w:x.2.1*256/x.1<n+1:=(Int.ediv_lt_iff_lt_mul O).2 O;omega
  have d:=hR u eu;rw[this]at d;exact d
end Go.Ar