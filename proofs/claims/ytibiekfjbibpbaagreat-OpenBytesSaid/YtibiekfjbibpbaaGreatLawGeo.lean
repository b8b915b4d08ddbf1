/- The walks of the statements of layer 3 (geo): each call returns true, and no memory that was there is turned. -/
import Derived.Test.YtibiekfjbibpbaaGreatGeoN
set_option linter.unusedVariables false
namespace Go.Proofs.YtibiekfjbibpbaaGreat
open Go.RowKit
theorem sizeZ_slabs (n:Int) (h:0<slabsZ n):sizeZ (slabsZ n)=n:=by
 unfold slabsZ at h ⊢
 split at h
 ·rename_i hh;rw[if_pos hh];unfold sizeZ;rw[if_pos (by omega)];omega
 ·omega
theorem slabsZ_le (n:Int):0≤slabsZ n∧slabsZ n≤64:=by unfold slabsZ;split<;>omega
theorem geo_blocks_facts (s c j:Int) (hs:1≤s∧s≤64) (hj:0≤j∧j<blocksZ c):
  headerZ s=1024*s∧bitsZ s=headerZ s+8∧blockZ s c j=headerZ s+64+j*bytesZ c∧idxZ (blockZ s c j) c=j∧slabZ (blockZ s c j)=s∧0≤j*bytesZ c∧j*bytesZ c≤896∧j*bytesZ c+bytesZ c≤960∧(blockZ s c j)% 64=0:=by
 have h1:headerZ s=1024*s:=if_pos hs
 have h2:bitsZ s=headerZ s+8:=by rw[h1];exact if_pos hs
 have h3:blockZ s c j=headerZ s+64+j*bytesZ c:=by rw[h1];exact if_pos ⟨hs.1,hs.2,hj.1,hj.2⟩
 obtain⟨a1,a2⟩:=area_le c j hj.1 hj.2
 have h4:=blockZ_slab s c j hs hj.1 hj.2
 have hc:c=1∨c=2∨c=3:=by
  have:=hj.2;unfold blocksZ at this;split at this<;>(try split at this)<;>(try split at this)<;>omega
 refine⟨h1,h2,h3,idxZ_at _ c j (by omega) hj.1 hj.2 (by rw[h4.1]) h4.2,h4.1,a1,a2,?_,?_⟩
 ·have:=hj.2
  rcases hc with rfl | rfl | rfl<;>simp[bytesZ,blocksZ] at this ⊢ <;>omega
 ·rw[h3,h1]
  rcases hc with rfl | rfl | rfl<;>simp[bytesZ]<;>omega
end Go.Proofs.YtibiekfjbibpbaaGreat
